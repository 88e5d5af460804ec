/-
  (isochronref16.Draft).Topo: the walk. No conditions.
-/
import Derived.Test.YtjhpbemnklpefaaMTpW
import Derived.Test.YtjhpbemnklpefaaMBase
namespace Go.Proofs.Ytjhpbemnklpefaa
open Go.RowKit Go.Lib Plain

theorem agg24 : ∀ w, (isAgg 24).run Try.prog w = .ok true w := fun w => by kernel_rfl
theorem size24 : ∀ w, (sizeOf 24).run Try.prog w = .ok 6 w := fun w => by kernel_rfl
theorem infoBool : ((Try.prog).info? 4).map (fun i => (i.zero, i.size, i.bytes)) = some (some (.bool false), 1, 1) := by kernel_rfl

/-- What holds between two links: z: the heap's size at the start; z2: behind the stations' row. -/
structure TpI (g : Dg) (w : World) (z2 bs ks : Nat) (T : Tp) (pl : Option Addr) (kl : Nat) (W : World) : Prop where
  t : Holds W (w.heap.size + 1 + 1) [.int .i64 (T.n : Int), .slice (some ⟨bs, 0, none⟩) T.n ks, .slice pl T.ls.length kl]
  d : Holds W w.heap.size g.vs
  r : Holds W (w.heap.size + 1) [.int .i64 0, .slice none 0 0, .slice none 0 0]
  tf : ∀ x, W.frozen? ⟨w.heap.size + 1 + 1, x, none⟩ = false
  rf : ∀ x, W.frozen? ⟨w.heap.size + 1, x, none⟩ = false
  s : ∀ k, k < T.n → W.cell? ⟨bs, 0 + k, none⟩ = some (.bool (T.st k))
  o : W.ownsRow z2 50 4 (.slice pl T.ls.length kl) T.ls.length (lksC T.ls)
  b : Below w.heap.size w W
  z : w.heap.size + 3 ≤ z2
  y : bs < z2
  zz : z2 ≤ W.heap.size
  c : W.cell? ⟨bs, 0 + 0, none⟩ = some (.bool (T.st 0))
section
variable {g : Dg} {w : World} {z2 bs ks : Nat} {T : Tp} {pl : Option Addr} {kl : Nat} {W W' : World}
theorem TpI.keep (h : TpI g w z2 bs ks T pl kl W) (hb : Below W.heap.size W W') : TpI g w z2 bs ks T pl kl W' where
  t := h.t.keep hb
  d := h.d.keep hb
  r := h.r.keep hb
  tf x := by rw [hb.frozen (by show w.heap.size + 1 + 1 < _; have := h.z; have := h.zz; omega)]; exact h.tf x
  rf x := by rw [hb.frozen (by show w.heap.size + 1 < _; have := h.z; have := h.zz; omega)]; exact h.rf x
  s k hk := below_keep hb (h.s k hk)
  o := h.o.kept (Below.grow0 hb) own_none
  b := below_step h.b hb
  z := h.z
  y := h.y
  zz := Nat.le_trans h.zz hb.size
  c := below_keep hb h.c
theorem keepB {B b o : Nat} {v : Value} {A C : World} (hb : Below B A C) (hB : b < B) (h : A.cell? ⟨b, o, none⟩ = some v) : C.cell? ⟨b, o, none⟩ = some v := by
  rw [hb.cell (p := ⟨b, o, none⟩) hB]
  exact h
theorem holdsB {B b : Nat} {c : List Value} {A C : World} (hb : Below B A C) (hB : b < B) (h : Holds A b c) : Holds C b c := fun j v hj => keepB hb hB (h j v hj)

/-- With, and its answer laid into t. -/
theorem TpI.step (h : TpI g w z2 bs ks T pl kl W) {a b : Nat} {pl' : Option Addr} {kl' : Nat} (hB : Below z2 W W') (ho : W'.ownsRow z2 50 4 (.slice pl' (wth g.df T a b).ls.length kl') (wth g.df T a b).ls.length (lksC (wth g.df T a b).ls)) :
    TpI g w z2 bs ks (wth g.df T a b) pl' kl' (((W'.setCell ⟨w.heap.size + 1 + 1, 0, none⟩ (.int .i64 (T.n : Int))).setCell ⟨w.heap.size + 1 + 1, 1, none⟩ (.slice (some ⟨bs, 0, none⟩) T.n ks)).setCell ⟨w.heap.size + 1 + 1, 2, none⟩ (.slice pl' (wth g.df T a b).ls.length kl')) := by
  have hz := h.z
  have hy := h.y
  have hn := (wth_T (d := g.df) (T := T) (a := a) (b := b)).1
  have hbr := (wth_T (d := g.df) (T := T) (a := a) (b := b)).2
  have hz' := Nat.le_trans h.zz hB.size
  have hne : bs ≠ w.heap.size + 1 + 1 := fun e => by
    have h1 := h.c
    have h2 := h.t 0 _ rfl
    rw [← e] at h2
    rw [h1] at h2
    cases h2
  have hs : ∀ k v, W.cell? ⟨bs, 0 + k, none⟩ = some v → (((W'.setCell ⟨w.heap.size + 1 + 1, 0, none⟩ (.int .i64 (T.n : Int))).setCell ⟨w.heap.size + 1 + 1, 1, none⟩ (.slice (some ⟨bs, 0, none⟩) T.n ks)).setCell ⟨w.heap.size + 1 + 1, 2, none⟩ (.slice pl' (wth g.df T a b).ls.length kl')).cell? ⟨bs, 0 + k, none⟩ = some v := fun k v hk => by
    rw [World.cell?_setCell_far _ _ _ _ (Ne.symm hne), World.cell?_setCell_far _ _ _ _ (Ne.symm hne), World.cell?_setCell_far _ _ _ _ (Ne.symm hne)]
    exact keepB hB hy hk
  refine ⟨?_, ?_, ?_, fun x => ?_, fun x => ?_, fun k hk => ?_, ?_, ?_, hz, hy, by simpa [World.setCell] using hz', ?_⟩
  · rw [hn]
    exact ret3 _ _ _ (holdsB hB (by omega) h.t)
  · exact (((holdsB hB (by omega) h.d).far (by omega) _).far (by omega) _).far (by omega) _
  · exact (((holdsB hB (by omega) h.r).far (by omega) _).far (by omega) _).far (by omega) _
  · rw [World.frozen?_setCell, World.frozen?_setCell, World.frozen?_setCell, hB.frozen (p := ⟨w.heap.size + 1 + 1, x, none⟩) (by show w.heap.size + 1 + 1 < _; omega)]
    exact h.tf x
  · rw [World.frozen?_setCell, World.frozen?_setCell, World.frozen?_setCell, hB.frozen (p := ⟨w.heap.size + 1, x, none⟩) (by show w.heap.size + 1 < _; omega)]
    exact h.rf x
  · rw [hn] at hk
    refine hs k _ ?_
    rw [show (wth g.df T a b).st k = T.st k by unfold Tp.st; rw [hbr]]
    exact h.s k hk
  · exact ownsRow_setCell_below (ownsRow_setCell_below (ownsRow_setCell_below ho (by show w.heap.size + 1 + 1 < z2; omega) _) (by show w.heap.size + 1 + 1 < z2; omega) _) (by show w.heap.size + 1 + 1 < z2; omega) _
  · exact below3 _ _ _ (h.b.trans (hB.mono (by omega))) (by omega)
  · refine hs 0 _ ?_
    rw [show (wth g.df T a b).st 0 = T.st 0 by unfold Tp.st; rw [hbr]]
    exact h.c
theorem TpI.old (h : TpI g w z2 bs ks T pl kl W) (hB : Below z2 W W') : W'.cell? ⟨w.heap.size + 1 + 1, 0, none⟩ = some (.int .i64 (T.n : Int)) ∧ W'.cell? ⟨w.heap.size + 1 + 1, 1, none⟩ = some (.slice (some ⟨bs, 0, none⟩) T.n ks) ∧ W'.cell? ⟨w.heap.size + 1 + 1, 2, none⟩ = some (.slice pl T.ls.length kl) ∧
    ∀ x, W'.frozen? ⟨w.heap.size + 1 + 1, x, none⟩ = false := by
  have hz := h.z
  refine ⟨keepB hB (by omega) (h.t 0 _ rfl), keepB hB (by omega) (h.t 1 _ rfl), keepB hB (by omega) (h.t 2 _ rfl), fun x => ?_⟩
  rw [hB.frozen (p := ⟨w.heap.size + 1 + 1, x, none⟩) (by show w.heap.size + 1 + 1 < _; omega)]
  exact h.tf x
theorem pick_below (u : U8) (j : Nat) (w : World) (hu : u.In w) :
    Calls Try.prog 11 #[.slice u.p u.n u.k, .int .i64 (j : Int)] w fun e w' => e = .returned (.int .i64 (u.f j : Int)) ∧ Below w.heap.size w w' :=
  (pick_any u j w hu).mono fun _ _ ⟨h1, h2⟩ => ⟨h1, by rw [h2]; exact Below.refl _ _⟩
theorem TpI.pick (h : TpI g w z2 bs ks T pl kl W) {u : U8} (hu : u.In w) (j : Nat) (d : Nat) (os : Array Obj) :
    Calls Try.prog 11 #[.slice u.p u.n u.k, .int .i64 (j : Int)] (Go.Sort.grow (redrawn W d) os) fun e w' => e = .returned (.int .i64 (u.f j : Int)) ∧ Below (Go.Sort.grow (redrawn W d) os).heap.size (Go.Sort.grow (redrawn W d) os) w' :=
  pick_below u j _ ((hu.keep h.b).keep (below_regrown W d os))
theorem TpI.with_any (h : TpI g w z2 bs ks T pl kl W) (hg : g.In w) (h24 : T.ls.length ≤ 24) (a b : Nat) :
    Calls Try.prog 10 #[.agg g.vs.toArray, .agg #[.int .i64 (T.n : Int), .slice (some ⟨bs, 0, none⟩) T.n ks, .slice pl T.ls.length kl], .int .i64 (a : Int), .int .i64 (b : Int)] W (WthP g T bs 0 ks z2 a b W) :=
  Ytjhpbemnklpefaa.with_any g T bs 0 ks pl kl a b z2 W (hg.keep h.b) h.s h.o h.zz h24
end

/-- A draft's topology, where it lies. -/
def TopoP (g : Dg) (w : World) (e : Ending) (w' : World) : Prop := ∃ (G : Tg) (k : Nat), e = .returned (.agg G.vs.toArray) ∧ G.T = Plain.t5 g.df k ∧ G.In w' ∧ Below w.heap.size w w'

set_option maxHeartbeats 16000000 in
set_option maxRecDepth 100000 in
theorem topo_walk (g : Dg) (w : World) (hg : g.In w) (hB : g.B ≤ 255) (hS : g.S ≤ 255) :
    Calls Try.prog 5 #[.agg g.vs.toArray] w (TopoP g w) := by
  have HG := Lib.hid hg
  clear hg
  have m1 : Int.tmod (g.B : Int) 6 = (g.B : Int) % 6 := Int.tmod_eq_emod_of_nonneg (by omega)
  have m2 : Int.tmod (g.S : Int) 5 = (g.S : Int) % 5 := Int.tmod_eq_emod_of_nonneg (by omega)
  rw [g.lit]
  go_enter Try.func5, Try.ntmps5
  go_upto_region 4 with fail
  obtain ⟨br, hbr⟩ : ∃ br, br = 1 + g.B % 6 := ⟨_, rfl⟩
  obtain ⟨sn, hsn⟩ : ∃ sn, sn = 2 + g.S % 5 := ⟨_, rfl⟩
  obtain ⟨n, hn⟩ : ∃ n, n = br + sn := ⟨_, rfl⟩
  have e1 : 1 + (g.B : Int) % 6 = (br : Int) := by omega
  have e2 : 2 + (g.S : Int) % 5 = (sn : Int) := by omega
  have e3 : (br : Int) + (sn : Int) = (n : Int) := by omega
  have b1 : 1 ≤ br := by omega
  have b6 : br ≤ 6 := by omega
  have s2 : 2 ≤ sn := by omega
  have s6 : sn ≤ 6 := by omega
  have n3 : 3 ≤ n := by omega
  have n12 : n ≤ 12 := by omega
  simp only [e1, e2, e3]
  have HBR := Lib.hid hbr
  have HSN := Lib.hid hsn
  have HNN := Lib.hid hn
  clear hbr hsn hn e1 e2 e3 m1 m2
  refine wp_world ?_
  intro V hV
  have zV : V.heap.size = w.heap.size + 3 := by subst hV; simp
  have HV := Lib.hid (show Below w.heap.size w V by subst hV; exact below_alloc (below_alloc (below_alloc (Below.refl _ _) _) _) _)
  have V0 := Lib.hid (show Holds V w.heap.size g.vs by subst hV; exact ((holds_alloc w g.vs 24 rfl).alloc (by simp) _).alloc (by simp; omega) _)
  have V1 := Lib.hid (show Holds V (w.heap.size + 1) [.int .i64 0, .slice none 0 0, .slice none 0 0] by subst hV; exact (holds_alloc _ [.int .i64 0, .slice none 0 0, .slice none 0 0] 29 (by simp)).alloc (by simp) _)
  have V2 := Lib.hid (show Holds V (w.heap.size + 1 + 1) [.int .i64 (n : Int), .slice none 0 0, .slice none 0 0] by subst hV; exact holds_alloc _ [.int .i64 (n : Int), .slice none 0 0, .slice none 0 0] 29 (by simp))
  have F1 := Lib.hid (show ∀ x, V.frozen? ⟨w.heap.size + 1, x, none⟩ = false by subst hV; exact frozen_alloc_lt _ (by simp) (fun x => frozen_new _ _ _ _ (by simp)))
  have F2 := Lib.hid (show ∀ x, V.frozen? ⟨w.heap.size + 1 + 1, x, none⟩ = false by subst hV; exact fun x => frozen_new _ _ _ _ (by simp))
  clear hV
  go_wp2
  go_loopw [6] (fun p wr => ∃ (i : Nat) (v : Value), p = .int .i64 (i : Int) ∧ i ≤ n ∧ Hid (wr.ownsRow (w.heap.size + 3) 4 1 v i ((List.range i).map fun k => .bool (decide (br ≤ k)))) ∧ Hid (Holds wr w.heap.size g.vs) ∧ Hid (Holds wr (w.heap.size + 1) [.int .i64 0, .slice none 0 0, .slice none 0 0]) ∧
      Hid (Holds wr (w.heap.size + 1 + 1) [.int .i64 (n : Int), v, .slice none 0 0]) ∧ Hid (∀ x, wr.frozen? ⟨w.heap.size + 1, x, none⟩ = false) ∧ Hid (∀ x, wr.frozen? ⟨w.heap.size + 1 + 1, x, none⟩ = false) ∧ Hid (Below w.heap.size w wr) ∧ w.heap.size + 3 ≤ wr.heap.size)
    (fun p _ => n - (RowKit.intOf p).toNat)
  case atStart => exact ⟨0, .slice none 0 0, rfl, by omega, Lib.hid (World.ownsRow_nil _ _ _ _), V0, V1, V2, F1, F2, HV, by omega⟩
  case round =>
    clear V0 V1 V2 F1 F2 HV
    obtain ⟨i, v, rfl, hi, GO, G0, G1, G2, X1, X2, GB, gz⟩ := hrel
    have t0 : wr.cell? ⟨w.heap.size + 1 + 1, 0, none⟩ = some (.int .i64 (n : Int)) := G2.out 0 _ rfl
    have t1 : wr.cell? ⟨w.heap.size + 1 + 1, 1, none⟩ = some v := G2.out 1 _ rfl
    by_cases hlt : i < n
    · have c1 : (i : Int) < (n : Int) := by omega
      obtain ⟨i0, hi0, hz0, hz1, hz2⟩ := info_parts infoBool
      have hlo := fun k e => (GO.out.lt k e).1
      have hn2 : some (w.heap.size + 1 + 1) ≠ v.ownBlock := fun e => by have := hlo _ e.symm; omega
      have hn1 : some (w.heap.size + 1) ≠ v.ownBlock := fun e => by have := hlo _ e.symm; omega
      have hn0 : some w.heap.size ≠ v.ownBlock := fun e => by have := hlo _ e.symm; omega
      have GO1 := Lib.hid (GO.out.alloc (.cells #[.bool (decide (br ≤ i))] 4))
      have hn3 := fun k e => (GO.out.lt k e).2
      go_wp2_with (at_builtin; refine wpList_append_own_at _ rfl _ _ 26 rfl (w.heap.size + 3) 4 i0 _ 1 1 Try.underlying26 hi0 hz0 hz1 hz2 rfl (by omega) _ i _ rfl GO1.out ⟨wr.heap.size, 0, none⟩ 1 1 [.bool (decide (br ≤ i))] rfl rfl (cell_one_new _ _ _) (fun u hu => by cases List.mem_singleton.1 hu; rfl) (by unfold maxLen; omega) (by omega) (by simp; omega) ?_; intro v' w7 hown hgrow _ hat; obtain ⟨g', cap', rfl⟩ := own_form15 hown (by omega); have t1 := cell_app hgrow t1 hn2; have tf := frozen_app hgrow X2.out (by omega) hn2; have H2 := Lib.hid (grown_holds (G2.out.alloc (by omega) _) hgrow hn2); have H0 := Lib.hid (grown_holds (G0.out.alloc (by omega) _) hgrow hn0); have H1 := Lib.hid (grown_holds (G1.out.alloc (by omega) _) hgrow hn1); have HF := Lib.hid (frozen_app hgrow X1.out (by omega) hn1); have HO := Lib.hid hown; have HB7 := Lib.hid ((below_alloc GB.out _).grown hgrow (by simp; omega) (fun k e => Nat.le_trans (by omega) (hlo k e))); have z7 := hgrow.size; clear hown hgrow hat)
      simp at z7
      have hg' : g' ≠ w.heap.size + 1 + 1 := fun e => by have := (HO.out.lt g' rfl).1; omega
      go_roundw
      case rel =>
        refine ⟨i + 1, _, rfl, by omega, Lib.hid ?_, Lib.hid (H0.out.far (by omega) _), Lib.hid (H1.out.far (by omega) _), Lib.hid (H2.out.set 1 _), Lib.hid (fun x => by rw [World.frozen?_setCell]; exact HF.out x), Lib.hid (fun x => by rw [World.frozen?_setCell]; exact tf x), Lib.hid (HB7.out.setCell (p := ⟨w.heap.size + 1 + 1, 1, none⟩) (by show w.heap.size ≤ w.heap.size + 1 + 1; omega) _), by simp [World.setCell]; omega⟩
        have e := HO.out
        rw [show ([Value.bool (decide (br ≤ i))] : List Value) = [i].map fun k => .bool (decide (br ≤ k)) from rfl, ← List.map_append, ← List.range_succ] at e
        exact ownsRow_setCell_below e (by show w.heap.size + 1 + 1 < w.heap.size + 3; omega) _
      case measure =>
        simp [RowKit.intOf]
        omega
    · have c1 : ¬ (i : Int) < (n : Int) := by omega
      obtain rfl : i = n := by omega
      obtain ⟨bs, ks, rfl⟩ := own_form15 GO.out (by omega)
      have hlo := GO.out.lt bs rfl
      have hT0 : TpI g w wr.heap.size bs ks (Plain.t1 g.df 0) none 0 wr := by
        have hn' : (Plain.t1 g.df 0).n = i := by show 1 + g.B % 6 + (2 + g.S % 5) = i; rw [HNN.out, HBR.out, HSN.out]
        have hb' : (Plain.t1 g.df 0).br = br := by rw [HBR.out]; rfl
        have hs : ∀ k, k < i → wr.cell? ⟨bs, 0 + k, none⟩ = some (.bool (decide (br ≤ k))) := fun k hk => by
          have := GO.out.cellAt k (by omega)
          rw [Nat.zero_add, this]
          simp [hk]
        refine ⟨?_, G0.out, G1.out, X2.out, X1.out, fun k hk => ?_, World.ownsRow_nil _ _ _ _, GB.out, gz, hlo.2, Nat.le_refl _, ?_⟩
        · rw [hn']
          exact G2.out
        · unfold Tp.st
          rw [hb']
          exact hs k (by omega)
        · unfold Tp.st
          rw [hb']
          exact hs 0 (by omega)
      have hT := Lib.hid hT0
      have hT1n : (Plain.t1 g.df 0).n = i := by show 1 + g.B % 6 + (2 + g.S % 5) = i; rw [HNN.out, HBR.out, HSN.out]
      clear hT0 GO G0 G1 G2 X1 X2 GB
      have HZ2 : ∃ z2, z2 = wr.heap.size := ⟨_, rfl⟩
      obtain ⟨z2, hz2⟩ := HZ2
      rw [← hz2] at hT
      have ZZ := Lib.hid hz2
      clear hz2
      have hDn : g.df.br = br := HBR.out.symm
      have hDs : g.df.sn = sn := HSN.out.symm
      have HD := Lib.hid hDn
      have HE := Lib.hid hDs
      clear hDn hDs hT1n
      go_wp2
      clear t0 t1 hlo hlt hi c1
      go_loopw [7] (fun p wx => ∃ (k : Nat) (pl : Option Addr) (kl : Nat), p = .int .i64 ((k : Int) + 1) ∧ k + 1 ≤ br ∧ Hid (TpI g w z2 bs ks (Plain.t1 g.df k) pl kl wx)) (fun p _ => 7 - (RowKit.intOf p).toNat)
      case atStart => exact ⟨0, none, 0, rfl, by omega, hT⟩
      case round =>
        clear hT
        obtain ⟨k, pl, kl, rfl, hk, GT⟩ := hrel
        by_cases hkb : k + 1 < br
        · have c2 : (k : Int) + 1 < (br : Int) := by omega
          have x0 := GT.out.t 0 _ rfl
          have x1 := GT.out.t 1 _ rfl
          have x2 := GT.out.t 2 _ rfl
          have HW := Lib.hid (GT.out.with_any HG.out (t1_way g.df k).l24 k (k + 1))
          rw [show ((k + 1 : Nat) : Int) = (k : Int) + 1 by omega] at HW
          go_wp2_with ((with_reducible refine at_load 24 (.tmp 1) ?_); refine wpList_load_whole rfl (.tmp 1) 24 rfl w.heap.size 0 g.vs rfl agg24 size24 GT.out.d ?_; simp only [Act.put, List.setIfInBounds_toArray, List.set_cons_succ, List.set_cons_zero])
          with_reducible refine HW.out.mono ?_
          rintro e W' ⟨pl', kl', rfl, ho, hB⟩
          have S := Lib.hid (GT.out.step hB ho)
          obtain ⟨y0, y1, y2, yf⟩ := GT.out.old hB
          clear x0 x1 x2 ho hB GT HW
          go_wp2
          go_roundw
          case rel => exact ⟨k + 1, pl', kl', by rw [Int.natCast_add]; rfl, by omega, S⟩
          case measure =>
            simp [RowKit.intOf]
            omega
        · have c2 : ¬ (k : Int) + 1 < (br : Int) := by omega
          obtain rfl : k = br - 1 := by omega
          have G2 : ∃ T0, T0 = Plain.t1 g.df (br - 1) ∧ T0 = Plain.t2 g.df 0 := ⟨_, rfl, by show Plain.t1 g.df (br - 1) = Plain.t1 g.df (g.df.br - 1); rw [HD.out]⟩
          obtain ⟨T0, hT1, hT2⟩ := G2
          rw [← hT1, hT2] at GT
          clear hT1 hT2
          go_wp2
          clear c2
          go_loopw [8] (fun p wx => ∃ (k : Nat) (pl : Option Addr) (kl : Nat), p = .int .i64 (k : Int) ∧ k ≤ sn ∧ Hid (TpI g w z2 bs ks (Plain.t2 g.df k) pl kl wx)) (fun p _ => 7 - (RowKit.intOf p).toNat)
          case atStart => exact ⟨0, pl, kl, rfl, by omega, GT⟩
          case round =>
          clear GT hk hkb pl kl
          obtain ⟨k, pl, kl, rfl, hk, GT⟩ := hrel
          by_cases hkb : k < sn
          · have c2 : (k : Int) < (sn : Int) := by omega
            obtain ⟨T, hTT⟩ : ∃ T, T = Plain.t2 g.df k := ⟨_, rfl⟩
            rw [← hTT] at GT
            have HTT := Lib.hid hTT
            have h24 := (t2_way g.df k).l24
            rw [← hTT] at h24
            clear hTT
            go_upto_region 15 with fail
            refine wp_region_quiet_tail 12 (by kernel_rfl) (by kernel_rfl) ?_
            simp only [List.take_succ_cons, List.take_zero, List.drop_succ_cons, List.drop_zero]
            refine wpQuiet_load_whole rfl (.tmp 1) 24 rfl w.heap.size 0 g.vs rfl agg24 size24 (holds_regrown GT.out.d) ?_
            simp only [Act.put, List.setIfInBounds_toArray, List.set_cons_succ, List.set_cons_zero]
            refine wpQuiet_load_whole rfl (.tmp 5) 29 rfl (w.heap.size + 1 + 1) 0 [.int .i64 (T.n : Int), .slice (some ⟨bs, 0, none⟩) T.n ks, .slice pl T.ls.length kl] rfl agg29 size29 (holds_regrown GT.out.t) ?_
            simp only [Act.put, List.setIfInBounds_toArray, List.set_cons_succ, List.set_cons_zero]
            have hq0 := HG.out.h.l (2 * k)
            have HP := Lib.hid (fun d os => GT.out.pick HG.out.h (2 * k) d os)
            rw [show ((2 * k : Nat) : Int) = 2 * (k : Int) by omega] at HP
            obtain ⟨q, hq⟩ : ∃ q, q = g.df.hm (2 * k) := ⟨_, rfl⟩
            have hq' : g.h.f (2 * k) = q := hq.symm
            rw [hq'] at HP hq0
            have HQ := Lib.hid hq
            clear hq hq'
            have em : Int.tmod (q : Int) (br : Int) = (q : Int) % (br : Int) := Int.tmod_eq_emod_of_nonneg (by omega)
            have bz : ¬ (br : Int) = 0 := by omega
            have c3 := fun p : Regrown => cell_regrown (show wr.cell? ⟨w.heap.size, 3, none⟩ = some (.slice g.h.p g.h.n g.h.k) from GT.out.d 3 _ rfl) p.d p.os
            repeat (go_big_quiet_step (with_reducible exact Calls.regrown_of (HP.out _ _)))
            refine wpQuiet_nil ?_
            rintro W6 ⟨pr, hpr⟩
            have B6 : Below wr.heap.size wr W6 := by rw [hpr]; exact below_regrown wr pr.d pr.os
            clear hpr
            have G6 := Lib.hid (GT.out.keep B6)
            clear B6 GT
            have HW := Lib.hid (G6.out.with_any HG.out h24 (br + k) (q % br))
            rw [show ((br + k : Nat) : Int) = (br : Int) + (k : Int) by omega, show ((q % br : Nat) : Int) = (q : Int) % (br : Int) from Int.natCast_emod _ _] at HW
            go_wp2_with fail
            with_reducible refine HW.out.mono ?_
            rintro e W' ⟨pl', kl', rfl, ho, hB⟩
            have S := Lib.hid (G6.out.step hB ho)
            obtain ⟨y0, y1, y2, yf⟩ := G6.out.old hB
            clear ho hB G6 HW
            go_wp2
            go_roundw
            case rel => exact ⟨k + 1, pl', kl', by rw [Int.natCast_add]; rfl, by omega, Lib.hid (by rw [show Plain.t2 g.df (k + 1) = wth g.df T (br + k) (q % br) from by rw [HTT.out, HQ.out, ← HD.out]; rfl]; exact S.out)⟩
            case measure =>
              simp [RowKit.intOf]
              omega
          · have c2 : ¬ (k : Int) < (sn : Int) := by omega
            obtain rfl : k = sn := by omega
            have h24 := (t2_way g.df k).l24
            have mB : Int.tmod (g.B : Int) 2 = (g.B : Int) % 2 := Int.tmod_eq_emod_of_nonneg (by omega)
            go_upto_region 16 with fail
            clear c2
            go_cut [75] (fun s wx => s = .bool (decide (2 < br ∧ g.B % 2 = 0)) ∧ wx = wr)
            case first =>
              have q0 : wr.cell? ⟨w.heap.size, 0, none⟩ = some (.int .u8 (g.B : Int)) := GT.out.d 0 _ rfl
              by_cases hr1 : 2 < br
              · have r1 : (br : Int) > 2 := by omega
                by_cases hr2 : g.B % 2 = 0
                · have r2 : (g.B : Int) % 2 = 0 := by omega
                  go_wp2
                  go_meet
                  exact ⟨by rw [decide_eq_true (show 2 < br ∧ g.B % 2 = 0 from ⟨hr1, hr2⟩)], rfl⟩
                · have r2 : ¬ (g.B : Int) % 2 = 0 := by omega
                  go_wp2
                  go_meet
                  exact ⟨by rw [decide_eq_false (show ¬ (2 < br ∧ g.B % 2 = 0) from fun h => hr2 h.2)]; congr 1; exact beq_eq_false_iff_ne.2 r2, rfl⟩
              · have r1 : ¬ (br : Int) > 2 := by omega
                go_wp2
                go_meet
                exact ⟨by rw [decide_eq_false (show ¬ (2 < br ∧ g.B % 2 = 0) from fun h => hr1 h.1)], rfl⟩
            case rest =>
            obtain ⟨rfl, rfl⟩ := hcut
            rename_i K' hK'
            refine hK' _ _ ?_
            clear hK' K'
            go_cut [] (fun wx => ∃ (pl : Option Addr) (kl : Nat), Hid (TpI g w z2 bs ks (Plain.t3 g.df) pl kl wx))
            case first =>
              by_cases hr : 2 < br ∧ g.B % 2 = 0
              · rw [decide_eq_true hr]
                obtain ⟨hr1, hr2⟩ := hr
                have x0 := GT.out.t 0 _ rfl
                have x1 := GT.out.t 1 _ rfl
                have x2 := GT.out.t 2 _ rfl
                have HW := Lib.hid (GT.out.with_any HG.out h24 (br - 1) 0)
                rw [show ((br - 1 : Nat) : Int) = (br : Int) - 1 by omega] at HW
                go_wp2_with ((with_reducible refine at_load 24 (.tmp 1) ?_); refine wpList_load_whole rfl (.tmp 1) 24 rfl w.heap.size 0 g.vs rfl agg24 size24 GT.out.d ?_; simp only [Act.put, List.setIfInBounds_toArray, List.set_cons_succ, List.set_cons_zero])
                refine HW.out.mono ?_
                rintro e W' ⟨pl', kl', rfl, ho, hB⟩
                have S := Lib.hid (GT.out.step hB ho)
                obtain ⟨y0, y1, y2, yf⟩ := GT.out.old hB
                clear x0 x1 x2 ho hB GT HW
                go_wp2
                go_meet
                refine ⟨pl', kl', ?_⟩
                have e3 : Plain.t3 g.df = wth g.df (Plain.t2 g.df k) (br - 1) 0 := by
                  unfold Plain.t3
                  rw [HD.out, HE.out, if_pos ⟨decide_eq_true hr2, hr1⟩]
                rw [e3]
                exact S
              · rw [decide_eq_false hr]
                have e3 : Plain.t3 g.df = Plain.t2 g.df k := by
                  unfold Plain.t3
                  rw [HD.out, HE.out, if_neg (fun h => hr ⟨h.2, of_decide_eq_true h.1⟩)]
                go_wp2
                go_meet
                exact ⟨pl, kl, by rw [e3]; exact GT⟩
            case rest =>
            clear GT h24 mB pl kl
            obtain ⟨pl, kl, GT⟩ := hcut
            go_wp2
            go_loopw [9] (fun p wx => ∃ (j : Nat) (pl : Option Addr) (kl : Nat), p = .int .i64 (j : Int) ∧ j ≤ k ∧ Hid (TpI g w z2 bs ks (Plain.t4 g.df j) pl kl wx)) (fun p _ => 7 - (RowKit.intOf p).toNat)
            case atStart => exact ⟨0, pl, kl, rfl, by omega, GT⟩
            case round =>
            clear GT hk hkb pl kl
            obtain ⟨j, pl, kl, rfl, hj, GT⟩ := hrel
            by_cases hjk : j < k
            · have c2 : (j : Int) < (k : Int) := by omega
              obtain ⟨T, hTT⟩ : ∃ T, T = Plain.t4 g.df j := ⟨_, rfl⟩
              have h24 := (t4_way g.df j).l24
              rw [← hTT] at GT h24
              have HTT := Lib.hid hTT
              clear hTT
              obtain ⟨q, hq⟩ : ∃ q, q = g.df.hm (2 * j + 1) := ⟨_, rfl⟩
              have hq' : g.h.f (2 * j + 1) = q := hq.symm
              have hq0 := HG.out.h.l (2 * j + 1)
              rw [hq'] at hq0
              have HQ := Lib.hid hq
              clear hq
              have e3 : Int.tmod (q : Int) 3 = (q : Int) % 3 := Int.tmod_eq_emod_of_nonneg (by omega)
              have HP1 := Lib.hid (pick_any g.h (2 * j + 1) wr (HG.out.h.keep GT.out.b))
              rw [show ((2 * j + 1 : Nat) : Int) = 2 * (j : Int) + 1 by omega, hq'] at HP1
              have c3' : wr.cell? ⟨w.heap.size, 3, none⟩ = some (.slice g.h.p g.h.n g.h.k) := GT.out.d 3 _ rfl
              have HQ' := Lib.hid hq'
              clear hq'
              go_wp2_with fail
              refine HP1.out.mono ?_
              rintro e W' ⟨rfl, hW'⟩
              subst hW'
              clear HP1 c3'
              by_cases h3 : 0 < q % 3
              · have h3' : (q : Int) % 3 > 0 := by omega
                go_upto_region 22 with fail
                have hq' := HQ'.out
                clear h3' e3 c2
                refine wp_region_quiet_tail 13 (by kernel_rfl) (by kernel_rfl) ?_
                simp only [List.take_succ_cons, List.take_zero, List.drop_succ_cons, List.drop_zero]
                refine wpQuiet_load_whole rfl (.tmp 1) 24 rfl w.heap.size 0 g.vs rfl agg24 size24 (holds_regrown GT.out.d) ?_
                simp only [Act.put, List.setIfInBounds_toArray, List.set_cons_succ, List.set_cons_zero]
                refine wpQuiet_load_whole rfl (.tmp 5) 29 rfl (w.heap.size + 1 + 1) 0 [.int .i64 (T.n : Int), .slice (some ⟨bs, 0, none⟩) T.n ks, .slice pl T.ls.length kl] rfl agg29 size29 (holds_regrown GT.out.t) ?_
                simp only [Act.put, List.setIfInBounds_toArray, List.set_cons_succ, List.set_cons_zero]
                have HP := Lib.hid (fun d os => GT.out.pick HG.out.h (2 * j + 1) d os)
                rw [show ((2 * j + 1 : Nat) : Int) = 2 * (j : Int) + 1 by omega, hq'] at HP
                have em : Int.tmod (q : Int) (br : Int) = (q : Int) % (br : Int) := Int.tmod_eq_emod_of_nonneg (by omega)
                have bz : ¬ (br : Int) = 0 := by omega
                have c3 := fun p : Regrown => cell_regrown (show W'.cell? ⟨w.heap.size, 3, none⟩ = some (.slice g.h.p g.h.n g.h.k) from GT.out.d 3 _ rfl) p.d p.os
                clear hq'
                repeat (go_big_quiet_step (with_reducible exact Calls.regrown_of (HP.out _ _)))
                refine wpQuiet_nil ?_
                rintro W6 ⟨pr, hpr⟩
                have B6 : Below W'.heap.size W' W6 := by rw [hpr]; exact below_regrown W' pr.d pr.os
                clear hpr
                have G6 := Lib.hid (GT.out.keep B6)
                clear B6 GT
                have HW := Lib.hid (G6.out.with_any HG.out h24 (br + j) (q % br))
                rw [show ((br + j : Nat) : Int) = (br : Int) + (j : Int) by omega, show ((q % br : Nat) : Int) = (q : Int) % (br : Int) from Int.natCast_emod _ _] at HW
                go_wp2_with fail
                with_reducible refine HW.out.mono ?_
                rintro e W' ⟨pl', kl', rfl, ho, hB⟩
                have S := Lib.hid (G6.out.step hB ho)
                obtain ⟨y0, y1, y2, yf⟩ := G6.out.old hB
                clear ho hB G6 HW
                go_wp2
                go_roundw
                case rel => exact ⟨j + 1, pl', kl', by rw [Int.natCast_add]; rfl, by omega, Lib.hid (by rw [show Plain.t4 g.df (j + 1) = wth g.df T (br + j) (q % br) from by rw [HTT.out, HQ.out, ← HD.out]; exact if_pos (by rw [← HQ.out]; exact h3)]; exact S.out)⟩
                case measure =>
                  simp [RowKit.intOf]
                  omega
              · have h3' : ¬ (q : Int) % 3 > 0 := by omega
                go_wp2
                go_roundw
                case rel => exact ⟨j + 1, pl, kl, by rw [Int.natCast_add]; rfl, by omega, Lib.hid (by rw [show Plain.t4 g.df (j + 1) = T from by rw [HTT.out]; exact if_neg (by rw [← HQ.out]; exact h3)]; exact GT.out)⟩
                case measure =>
                  simp [RowKit.intOf]
                  omega
            · have c2 : ¬ (j : Int) < (k : Int) := by omega
              obtain rfl : j = k := by omega
              have e5 : Plain.t4 g.df j = Plain.t5 g.df 0 := by
                show Plain.t4 g.df j = Plain.t4 g.df g.df.sn
                rw [HE.out]
              rw [e5] at GT
              clear e5
              go_wp2
              clear c2
              go_loopw [10] (fun p wx => ∃ (m : Nat) (pl : Option Addr) (kl : Nat), p = .int .i64 (2 * (m : Int)) ∧ m ≤ 6 ∧ Hid (TpI g w z2 bs ks (Plain.t5 g.df m) pl kl wx)) (fun p _ => 13 - (RowKit.intOf p).toNat)
              case atStart => exact ⟨0, pl, kl, rfl, by omega, GT⟩
              case round =>
              clear GT hj hjk pl kl
              obtain ⟨m, pl, kl, rfl, hm, GT⟩ := hrel
              obtain ⟨x, hx⟩ : ∃ x : Int, 2 * (m : Int) = x := ⟨_, rfl⟩
              rw [hx]
              have HX := Lib.hid hx
              have x0 : 0 ≤ x := by omega
              have x12 : x ≤ 12 := by omega
              obtain ⟨T, hTT⟩ : ∃ T, T = Plain.t5 g.df m := ⟨_, rfl⟩
              have h24 := (t5_way g.df m).l24
              rw [← hTT] at GT h24
              have HTT := Lib.hid hTT
              by_cases hc : 2 * m + 1 < g.c.n ∧ 2 * m < 12
              · obtain ⟨hc1, hc2⟩ := hc
                have c1 : x + 1 < (g.c.n : Int) := by omega
                have c2 : x < 12 := by omega
                have c3 : x < (g.c.n : Int) := by omega
                obtain ⟨cb, co, hp, k0⟩ := (HG.out.c.keep GT.out.b).c (2 * m) (by omega)
                obtain ⟨cb', co', hp', k1⟩ := (HG.out.c.keep GT.out.b).c (2 * m + 1) (by omega)
                rw [hp] at hp'
                cases hp'
                have q2 : wr.cell? ⟨w.heap.size, 2, none⟩ = some (.slice g.c.p g.c.n g.c.k) := GT.out.d 2 _ rfl
                rw [hp] at q2
                have l0 := HG.out.c.l (2 * m)
                have l1 := HG.out.c.l (2 * m + 1)
                obtain ⟨qa, hqa⟩ : ∃ q, q = g.df.ch (2 * m) := ⟨_, rfl⟩
                obtain ⟨qb, hqb⟩ : ∃ q, q = g.df.ch (2 * m + 1) := ⟨_, rfl⟩
                have ra : g.c.f (2 * m) = qa := hqa.symm
                have rb : g.c.f (2 * m + 1) = qb := hqb.symm
                rw [ra] at k0 l0
                rw [rb] at k1 l1
                have HQA := Lib.hid hqa
                have HQB := Lib.hid hqb
                rw [show 2 * m = x.toNat by omega] at k0
                rw [show 2 * m + 1 = (x + 1).toNat by omega] at k1
                have ea : Int.tmod (qa : Int) (br : Int) = (qa : Int) % (br : Int) := Int.tmod_eq_emod_of_nonneg (by omega)
                have eb : Int.tmod (qb : Int) (br : Int) = (qb : Int) % (br : Int) := Int.tmod_eq_emod_of_nonneg (by omega)
                have bz : ¬ (br : Int) = 0 := by omega
                clear hqa hqb ra rb hp hx hTT hc1 hc2 hm
                go_upto_region 26 with fail
                have g0 := fun p : Regrown => cell_regrown q2 p.d p.os
                have g1 := fun p : Regrown => cell_regrown k0 p.d p.os
                have g2 := fun p : Regrown => cell_regrown k1 p.d p.os
                refine wp_region_quiet_tail 19 (by kernel_rfl) (by kernel_rfl) ?_
                simp only [List.take_succ_cons, List.take_zero, List.drop_succ_cons, List.drop_zero]
                refine wpQuiet_load_whole rfl (.tmp 1) 24 rfl w.heap.size 0 g.vs rfl agg24 size24 (holds_regrown GT.out.d) ?_
                simp only [Act.put, List.setIfInBounds_toArray, List.set_cons_succ, List.set_cons_zero]
                refine wpQuiet_load_whole rfl (.tmp 5) 29 rfl (w.heap.size + 1 + 1) 0 [.int .i64 (T.n : Int), .slice (some ⟨bs, 0, none⟩) T.n ks, .slice pl T.ls.length kl] rfl agg29 size29 (holds_regrown GT.out.t) ?_
                simp only [Act.put, List.setIfInBounds_toArray, List.set_cons_succ, List.set_cons_zero]
                repeat (go_big_quiet_step (fail))
                refine wpQuiet_nil ?_
                rintro W6 ⟨pr, hpr⟩
                have B6 : Below wr.heap.size wr W6 := by rw [hpr]; exact below_regrown wr pr.d pr.os
                clear hpr
                have G6 := Lib.hid (GT.out.keep B6)
                clear B6 GT
                have HW := Lib.hid (G6.out.with_any HG.out h24 (qa % br) (qb % br))
                rw [show ((qa % br : Nat) : Int) = (qa : Int) % (br : Int) from Int.natCast_emod _ _, show ((qb % br : Nat) : Int) = (qb : Int) % (br : Int) from Int.natCast_emod _ _] at HW
                go_wp2_with fail
                with_reducible refine HW.out.mono ?_
                rintro e W' ⟨pl', kl', rfl, ho, hB⟩
                have S := Lib.hid (G6.out.step hB ho)
                obtain ⟨y0, y1, y2, yf⟩ := G6.out.old hB
                clear ho hB G6 HW
                go_wp2
                go_roundw
                case rel => exact ⟨m + 1, pl', kl', int_eq (by have := HX.out; omega), by have := HX.out; omega, Lib.hid (by rw [show Plain.t5 g.df (m + 1) = wth g.df T (qa % br) (qb % br) from by rw [HTT.out, HQA.out, HQB.out, ← HD.out]; rfl]; exact S.out)⟩
                case measure =>
                  simp [RowKit.intOf]
                  omega
              · have q2 : wr.cell? ⟨w.heap.size, 2, none⟩ = some (.slice g.c.p g.c.n g.c.k) := GT.out.d 2 _ rfl
                have hend := Lib.hid (show ∃ bl, pl = some ⟨bl, 0, none⟩ from by
                  have hk := (t5_kept (d := g.df) ⟨by rw [HD.out]; exact b1, by rw [HD.out]; exact b6, by rw [HE.out]; exact s2, by rw [HE.out]; exact s6⟩ m).len
                  rw [← hTT, HD.out, HE.out] at hk
                  obtain ⟨bl, cap, e⟩ := own_form15 GT.out.o (by omega)
                  injection e with e1
                  exact ⟨bl, e1⟩)
                obtain ⟨bl, hbl⟩ := hend.out
                have hbl' := Lib.hid hbl
                have w0 : wr.cell? ⟨w.heap.size + 1 + 1, 0, none⟩ = some (.int .i64 (T.n : Int)) := GT.out.t 0 _ rfl
                have w1 : wr.cell? ⟨w.heap.size + 1 + 1, 1, none⟩ = some (.slice (some ⟨bs, 0, none⟩) T.n ks) := GT.out.t 1 _ rfl
                have w2 : wr.cell? ⟨w.heap.size + 1 + 1, 2, none⟩ = some (.slice pl T.ls.length kl) := GT.out.t 2 _ rfl
                rw [hbl] at w2
                have r0 : wr.cell? ⟨w.heap.size + 1, 0, none⟩ = some (.int .i64 0) := GT.out.r 0 _ rfl
                have r1 : wr.cell? ⟨w.heap.size + 1, 1, none⟩ = some (.slice none 0 0) := GT.out.r 1 _ rfl
                have r2 : wr.cell? ⟨w.heap.size + 1, 2, none⟩ = some (.slice none 0 0) := GT.out.r 2 _ rfl
                have rf := GT.out.rf
                have HE2 := Lib.hid (show TopoP g w (.returned (.agg #[.int .i64 (T.n : Int), .slice (some ⟨bs, 0, none⟩) T.n ks, .slice (some ⟨bl, 0, none⟩) T.ls.length kl])) (((wr.setCell ⟨w.heap.size + 1, 0, none⟩ (.int .i64 (T.n : Int))).setCell ⟨w.heap.size + 1, 1, none⟩ (.slice (some ⟨bs, 0, none⟩) T.n ks)).setCell ⟨w.heap.size + 1, 2, none⟩ (.slice (some ⟨bl, 0, none⟩) T.ls.length kl)) from by
                  have ho := GT.out.o
                  rw [hbl] at ho
                  have hlt := ho.lt bl rfl
                  have hz := GT.out.z
                  have hbs : bs ≠ w.heap.size + 1 := fun e => by
                    have h1 := GT.out.c
                    rw [e] at h1
                    rw [h1] at r0
                    cases r0
                  have hfar : ∀ b o v, b ≠ w.heap.size + 1 → wr.cell? ⟨b, o, none⟩ = some v → (((wr.setCell ⟨w.heap.size + 1, 0, none⟩ (.int .i64 (T.n : Int))).setCell ⟨w.heap.size + 1, 1, none⟩ (.slice (some ⟨bs, 0, none⟩) T.n ks)).setCell ⟨w.heap.size + 1, 2, none⟩ (.slice (some ⟨bl, 0, none⟩) T.ls.length kl)).cell? ⟨b, o, none⟩ = some v := fun b o v hb h => by
                    rw [World.cell?_setCell_far _ _ _ _ (Ne.symm hb), World.cell?_setCell_far _ _ _ _ (Ne.symm hb), World.cell?_setCell_far _ _ _ _ (Ne.symm hb)]
                    exact h
                  refine ⟨⟨T, bs, 0, ks, bl, 0, kl⟩, m, rfl, HTT.out, ⟨fun k hk => hfar _ _ _ hbs (GT.out.s k hk), fun i hi => ?_, fun i hi => ?_, fun i hi => ?_, fun i hi => ?_, ?_⟩, below3 _ _ _ GT.out.b (by omega)⟩
                  · refine hfar bl _ _ (by have := hlt.1; omega) ?_
                    show wr.cell? ⟨bl, 0 + i * 4, none⟩ = _
                    have hi' : i < T.ls.length := hi
                    rw [Nat.zero_add, ho.cellAt (i * 4) (by omega)]
                    exact (lksC_at T.ls i hi').1
                  · refine hfar bl _ _ (by have := hlt.1; omega) ?_
                    show wr.cell? ⟨bl, 0 + i * 4 + 1, none⟩ = _
                    have hi' : i < T.ls.length := hi
                    rw [Nat.zero_add, ho.cellAt (i * 4 + 1) (by omega)]
                    exact (lksC_at T.ls i hi').2.1
                  · refine hfar bl _ _ (by have := hlt.1; omega) ?_
                    show wr.cell? ⟨bl, 0 + i * 4 + 2, none⟩ = _
                    have hi' : i < T.ls.length := hi
                    rw [Nat.zero_add, ho.cellAt (i * 4 + 2) (by omega)]
                    exact (lksC_at T.ls i hi').2.2.1
                  · refine hfar bl _ _ (by have := hlt.1; omega) ?_
                    show wr.cell? ⟨bl, 0 + i * 4 + 3, none⟩ = _
                    have hi' : i < T.ls.length := hi
                    rw [Nat.zero_add, ho.cellAt (i * 4 + 3) (by omega)]
                    exact (lksC_at T.ls i hi').2.2.2
                  · rcases ho.2 with ⟨e, _⟩ | ⟨_, _, _, e, _, _, hn1, _⟩
                    · cases e
                    · cases e
                      exact hn1)
                have HR := Lib.hid (ret3 (.int .i64 (T.n : Int)) (.slice (some ⟨bs, 0, none⟩) T.n ks) (.slice (some ⟨bl, 0, none⟩) T.ls.length kl) GT.out.r)
                have hc' : ¬ x + 1 < (g.c.n : Int) ∨ (x + 1 < (g.c.n : Int) ∧ ¬ x < 12) := by omega
                clear hbl hx hTT GT hc hend
                rcases hc' with c1 | ⟨c1, c2⟩
                all_goals
                  go_wp2
                  refine bodyPost_ret ?_ rfl HE2.out
                  exact results_cell 2 29 Try.results5 (w.heap.size + 1) 0 _ rfl (run_loadVar_whole 29 (w.heap.size + 1) 0 [.int .i64 (T.n : Int), .slice (some ⟨bs, 0, none⟩) T.n ks, .slice (some ⟨bl, 0, none⟩) T.ls.length kl] agg29 size29 HR.out)

end Go.Proofs.Ytjhpbemnklpefaa
