/-
  Texts of this claim laid together: TpU, TpV.
-/
import Derived.BigQuiet
import Derived.WalkMore
import Derived.Deep.LoopGhost
import Derived.Test.YtjhpbemnklpefaaMTpM
namespace Go.Proofs.Ytjhpbemnklpefaa
open Go.RowKit Go.Lib Plain

attribute [local go_sem] eql37
set_option maxHeartbeats 32000000 in
set_option maxRecDepth 100000 in
theorem least_any (g : Tg) (hk : OkT g.T) (a b : Nat) (ha : a < g.T.n) (hb : b < g.T.n) (w : World) (hg : g.In w) :
    Calls Try.prog 13 #[.agg (Sv g).toArray, .int .i64 (a : Int), .int .i64 (b : Int), .agg z12.toArray, .agg z24.toArray, .int .i64 8] w (LeastQ g a b w) := by
  have HG := Lib.hid hg
  have l24 := hk.l24
  have n12 := hk.n12
  have hpn : g.T.pn ≤ 48 := by unfold Tp.pn; omega
  have HC := Lib.hid (fun r s hr hs W hW Hr Hs => compare_any g hk r s hr hs W hW Hr Hs)
  have HP := Lib.hid (fun W => ports_any g g.T.fr g.T.to l24 W)
  clear hg
  go_enter Try.func13, Try.ntmps13
  go_wp2
  go_step3
  go_wp2_with ((with_reducible refine at_op (.alloc 81) ?_); refine wpList_runT rfl (run_allocT rfl (alloc_81 _)) ?_; simp only [Act.put, List.setIfInBounds_toArray, List.set_cons_succ, List.set_cons_zero])
  go_step3
  go_upto_region 2 with fail
  rw [show (((w.alloc (.cells (Sv g).toArray 55)).alloc (.cells z12.toArray 58)).alloc (.cells z24.toArray 59)).heap.size = w.heap.size + 3 by simp, show w.heap.size + 1 + 1 = w.heap.size + 2 from rfl]
  refine wp_world ?_
  intro V hV
  have HO := Lib.hid (show LO g a w 0 (fun _ => none) V by
    have hz : V.heap.size = w.heap.size + 4 := by subst hV; simp
    have hb : Below w.heap.size w V := by subst hV; exact below_alloc (below_alloc (below_alloc (below_alloc (Below.refl _ _) _) _) _) _
    refine ⟨⟨?_, fun i hi => ?_, fun i hi => ?_, hb, by omega⟩, ⟨?_, fun x => ?_, (fun m r e => by cases e), by omega, (fun m r e => by cases e)⟩, (fun m r e => by cases e), bi_start g.T a, rfl⟩
    · subst hV
      exact (SAt.new HG.out 55).keep (below_alloc (below_alloc (below_alloc (Below.refl _ _) _) _) _)
    · have := holds_alloc (w.alloc (.cells (Sv g).toArray 55)) z12 58 (b := w.heap.size + 1) (by simp) i _ (z12_at i hi)
      rw [Nat.zero_add] at this
      subst hV
      exact below_keep (below_alloc (below_alloc (Below.refl _ _) _) _) this
    · have := holds_alloc ((w.alloc (.cells (Sv g).toArray 55)).alloc (.cells z12.toArray 58)) z24 59 (b := w.heap.size + 2) (by simp) i _ (z24_at i hi)
      rw [Nat.zero_add] at this
      subst hV
      exact below_keep (below_alloc (Below.refl _ _) _) this
    · subst hV
      exact holds_alloc _ (hCs fun _ => none) 81 (by simp)
    · subst hV
      exact frozen_new _ _ _ _ (by simp))
  clear hV
  generalize (Sv g).toArray = A99
  generalize z12.toArray = A12
  generalize z24.toArray = A24
  go_wp2
  go_loopw [21] (fun p wr => ∃ (i : Nat) (H : Nat → Option Rt), p = .int .i64 (i : Int) ∧ i ≤ 8 ∧ Hid (LO g a w i H wr)) (fun p _ => 8 - (RowKit.intOf p).toNat)
  case atStart => exact ⟨0, _, rfl, by omega, HO⟩
  case round =>
    clear HO
    obtain ⟨i, H, rfl, hi, GO⟩ := hrel
    have hdone := Lib.hid (fun W (h : LO g a w i H W) (e : lst g.T a 8 (fun _ => none) = PL H) => h.answer (b := b) e)
    by_cases hlt : i < 8
    · have hlt1 : (i : Int) < 8 := by omega
      have hhc := hCs_len H
      go_upto_region 5 with (first | ((with_reducible refine at_op (.alloc 81) ?_); refine wpList_runT rfl (run_allocT rfl (alloc_81 _)) ?_; simp only [Act.put, List.setIfInBounds_toArray, List.set_cons_succ, List.set_cons_zero]) | ((with_reducible refine at_load 81 (.tmp 13) ?_); refine wpList_load_whole rfl (.tmp 13) 81 rfl (w.heap.size + 3) 0 (hCs H) rfl agg81 (size81 H) GO.out.h.c ?_; simp only [Act.put, List.setIfInBounds_toArray, List.set_cons_succ, List.set_cons_zero]) | ((with_reducible refine at_store 81 (.tmp 14) (.tmp 23) ?_); refine wpList_store_whole rfl (.tmp 14) (.tmp 23) 81 rfl wr.heap.size 0 (hCs H) rfl rfl (size81 H) (fun j hj => by rw [hhc] at hj; exact (holds_alloc wr (hCs fun _ => none) 81 rfl).some j (by rw [hCs_len]; exact hj)) (fun j _ => frozen_new _ _ _ _ rfl) (hCs_one H) ?_; intro W2 hw2; simp only [Act.put, List.setIfInBounds_toArray, List.set_cons_succ, List.set_cons_zero]))
      obtain ⟨nb, hnb⟩ : ∃ nb, nb = wr.heap.size := ⟨_, rfl⟩
      have G2 := Lib.hid (show LN g a w i H nb H 0 false W2 from GO.out.begin hnb (by rw [hnb]; exact hw2))
      rw [← hnb]
      clear hw2 hnb GO
      have HSv := Lib.hid (show Holds W2 w.heap.size (sFn g g.T.fr g.T.to) from G2.out.o.l.s.h)
      go_wp2_with ((with_reducible refine at_load 55 (.tmp 6) ?_); refine wpList_load_whole rfl (.tmp 6) 55 rfl w.heap.size 0 (sFn g g.T.fr g.T.to) rfl agg55 (size55 g _ _) HSv.out ?_; simp only [Act.put, List.setIfInBounds_toArray, List.set_cons_succ, List.set_cons_zero])
      refine (HP.out _).mono ?_
      rintro e W3 ⟨rfl, hb3⟩
      have G3 := Lib.hid (G2.out.keep hb3)
      clear hb3 G2 HSv
      generalize (sFn g g.T.fr g.T.to).toArray = A99'
      generalize (hCs H).toArray = A12'
      go_wp2
      go_loopw [15, 26] (fun q p wx => ∃ (p' : Nat) (N : Nat → Option Rt) (bt : Bool), p = .int .i64 (p' : Int) ∧ q = .bool bt ∧ p' ≤ g.T.pn ∧ Hid (LN g a w i H nb N p' bt wx)) (fun _ p _ => g.T.pn - (RowKit.intOf p).toNat)
      case atStart => exact ⟨0, H, false, rfl, rfl, by omega, G3⟩
      case round =>
        clear G3
        obtain ⟨p, N, bt, rfl, rfl, hp, GN⟩ := hrel
        by_cases hpl : p < g.T.pn
        · have hpl1 : (p : Int) < (g.T.pn : Int) := by omega
          have hp48 : (p : Int) < 48 := by omega
          have p48 : p < 48 := by omega
          have hfl := fr_lt hk hpl
          obtain ⟨n, hn⟩ : ∃ n, g.T.fr p = n := ⟨_, rfl⟩
          obtain ⟨m, hm⟩ : ∃ m, g.T.to p = m := ⟨_, rfl⟩
          have kf := GN.out.o.l.s.fr p p48
          have kt := GN.out.o.l.s.to p p48
          rw [hn] at kf hfl
          rw [hm] at kt hfl
          have hn12 : (n : Int) < 12 := by omega
          have hm12 : (m : Int) < 12 := by omega
          have HN := Lib.hid hn
          have HM := Lib.hid hm
          clear hn hm
          go_upto_region 8 with fail
          have r0 := fun p : Regrown => cell_regrown kf p.d p.os
          have r1 := fun p : Regrown => cell_regrown kt p.d p.os
          refine wp_region_quiet_below (by kernel_rfl) (by kernel_rfl) ?_
          repeat (go_big_quiet_step (fail))
          refine wpQuiet_nil ?_
          rintro W6 ⟨pr, hpr⟩
          have G6 := Lib.hid (GN.out.keep (show Below wr.heap.size wr W6 by rw [hpr]; exact below_regrown wr pr.d pr.os))
          clear hpr r0 r1 kf kt GN
          have hp2 : p / 2 < 24 := by unfold Tp.pn at hpl; omega
          have kl := G6.out.o.l.l (p / 2) hp2
          have hq : Int.tdiv (p : Int) 2 = ((p / 2 : Nat) : Int) := by rw [Int.tdiv_eq_ediv_of_nonneg (by omega)]; omega
          have hq2 : ((p / 2 : Nat) : Int) < 24 := by omega
          have HL := Lib.hid hpl
          by_cases hma : m = a
          · subst hma
            have GS := Lib.hid (G6.out.skip (show goes g.T m (PL H) p = false by
              unfold goes
              rw [HM.out]
              simp))
            clear G6
            generalize p / 2 = j at *
            go_wp2
            go_roundw
            case rel => exact ⟨p + 1, N, bt, by rw [Int.natCast_add]; rfl, rfl, by omega, GS⟩
            case measure =>
              simp [RowKit.intOf]
              omega
          · have x5 : ¬ (m : Int) = (a : Int) := by omega
            have x6 : ((m : Int) == (a : Int)) = false := beq_eq_false_iff_ne.2 x5
            have kb := G6.out.o.h.cell (m := n) (by omega)
            have ks := G6.out.o.l.s.i.s n (by omega)
            have kn := G6.out.o.l.n n (by omega)
            by_cases hna : n = a
            · subst hna
              have hnil : H n = none := by
                have := G6.out.o.bi.nil
                unfold PL at this
                simpa using this
              have hgo : goes g.T n (PL H) p = true := by
                unfold goes
                rw [HN.out, HM.out]
                simp [hma]
              have hnw : newR g.T (PL H) p = [] ++ [p] := by
                unfold newR PL
                rw [HN.out, hnil]
                rfl
              rw [hnil] at kb
              change W6.cell? _ = some (Value.slice none 0 0) at kb
              have HGO := Lib.hid hgo
              have HNW := Lib.hid hnw
              clear hgo hnw hnil
              generalize p / 2 = j at *
              go_upto_region 11 with fail
              obtain ⟨j0, hj0, hk0, hk1, hk2⟩ := info_parts info3
              refine wp_region_flagL 13 (by kernel_rfl) (by kernel_rfl) (fun w' => w'.cell? ⟨w.heap.size + 3, n, none⟩ = some (.slice none 0 0)) kb ?_
              simp only [List.take_succ_cons, List.take_zero, List.drop_succ_cons, List.drop_zero]
              repeat (go_big_quiet_step ((intros; rfl)))
              refine wpQuiet_load_one rfl (.tmp 69) 37 rfl ⟨w.heap.size + 3, n, none⟩ (.slice none 0 0) rfl noagg37 (fun w h => h) ?_
              simp only [Act.put, List.setIfInBounds_toArray, List.set_cons_succ, List.set_cons_zero]
              repeat (go_big_quiet_step ((intros; rfl)))
              refine wpQuiet_load_one rfl (.tmp 72) 37 rfl ⟨w.heap.size + 3, n, none⟩ (.slice none 0 0) rfl noagg37 (fun w h => h) ?_
              simp only [Act.put, List.setIfInBounds_toArray, List.set_cons_succ, List.set_cons_zero]
              repeat (go_big_quiet_step ((intros; rfl)))
              refine wpQuiet_load_one rfl (.tmp 76) 37 rfl ⟨w.heap.size + 3, n, none⟩ (.slice none 0 0) rfl noagg37 (fun w h => h) ?_
              simp only [Act.put, List.setIfInBounds_toArray, List.set_cons_succ, List.set_cons_zero]
              repeat (go_big_quiet_step ((intros; rfl)))
              refine wpQuiet_nil ?_
              change tailG _ _ _ _ _ W6.drew
              simp only [tailG]
              have kb4 : ∀ o, ((W6.alloc o).drew).cell? ⟨w.heap.size + 3, n, none⟩ = some (.slice none 0 0) := fun o => (World.cell?_alloc_lt _ _ _ (World.block_lt_of_cell? _ _ kb)).trans kb
              refine wp_of_run (v := .slice (some ⟨W6.heap.size, 0, none⟩) 1 1) (w' := (W6.alloc (.cells #[.int .i64 (p : Int)] 3)).drew) (by simp [execOp, go_sem]) ⟨fun _ => kb4 _, ?_⟩
              simp only [Act.put, List.setIfInBounds_toArray, List.set_cons_succ, List.set_cons_zero]
              refine wp_append_growsT (.tmp 79) (.tmp 81) 37 rfl 3 j0 _ 1 8 Try.underlying37 hj0 hk0 hk1 hk2 rfl (by omega) none 0 0 [] rfl (fun _ => ⟨rfl, rfl⟩) rfl (fun b e => by cases e) ⟨W6.heap.size, 0, none⟩ 1 1 [.int .i64 (p : Int)] rfl rfl (fun j u hj => by rw [add_off]; exact holds_alloc W6 [.int .i64 (p : Int)] 3 rfl j u hj) (one_one15 _) (by omega) (by unfold maxLen; omega) (by omega) ?_
              intro v' w4 hown hgrow
              have B4 := Lib.hid (show Below W6.heap.size W6 w4 from ((below_alloc (Below.refl _ _) (.cells #[.int .i64 (p : Int)] 3)).drew.grown hgrow (Nat.le_of_lt (by simp [World.drew])) (fun k e => by cases e)))
              obtain ⟨R, hRv, hRx, hRi, hRb, hRlt, hRk⟩ := owns_rt (xs := newR g.T (PL H) p) (n := 0 + 1) (by rw [HNW.out]; simp) (by omega) (by rw [HNW.out]; simpa using hown)
              have G7 := Lib.hid (G6.out.keep B4.out)
              have hRb' : W6.heap.size < R.b := by omega
              have HRI := Lib.hid hRi
              have HRX := Lib.hid hRx
              have hnb6 := G6.out.n.lt
              have hsz6 := G6.out.o.l.z
              change v' = Value.slice (some ⟨R.b, R.o, none⟩) R.xs.length R.k at hRv
              subst hRv
              refine ⟨fun _ => below_keep B4.out kb, ?_⟩
              simp only [Act.put, List.setIfInBounds_toArray, List.set_cons_succ, List.set_cons_zero]
              refine wp_of_run (v := .slice (some ⟨R.b, R.o, none⟩) R.xs.length R.k) (w' := w4) (by simp [execOp, go_sem]) ⟨fun h => absurd rfl h, ?_⟩
              refine NoPanic.normal ?_
              simp only [Act.put, List.setIfInBounds_toArray, List.set_cons_succ, List.set_cons_zero]
              clear hown hgrow kb4 kb G6 hRx hRi hRb B4
              have hm12b : m < 12 := by omega
              have hb4 := G7.out.n.cell (m := m) hm12b
              have hf4 := G7.out.n.f
              have hcR : CostOk g.T R.xs := by rw [HRX.out]; exact newR_ok G7.out.o.bi HL.out
              have hnb7 : R.b ≠ nb := by omega
              have hnb8 : R.b ≠ w.heap.size + 3 := by omega
              have HSv := Lib.hid (show Holds w4 w.heap.size (Sv g) from G7.out.o.l.s.h)
              cases hNm : N m with
              | none =>
                have hta : takes g.T (PL N) (g.T.to p) (newR g.T (PL H) p) = true := by
                  unfold takes PL
                  rw [HM.out, hNm]
                  rfl
                have HTA := Lib.hid hta
                rw [hNm] at hb4
                change w4.cell? _ = some (Value.slice none 0 0) at hb4
                have r0 := fun p : Regrown => cell_regrown hb4 p.d p.os
                clear hta hNm
                go_upto_region 12 with fail
                refine wp_region_quiet_below (by kernel_rfl) (by kernel_rfl) ?_
                repeat (go_big_quiet_step (fail))
                refine wpQuiet_nil ?_
                rintro W8 ⟨pr8, hpr8⟩
                have B8 : Below w4.heap.size w4 W8 := by rw [hpr8]; exact below_regrown w4 pr8.d pr8.os
                have GP := Lib.hid ((G7.out.keep B8).put HG.out HM.out HGO.out HTA.out (HRI.out.keep B8) HRX.out hnb7 hnb8 hRk)
                have hb8 := below_keep B8 hb4
                have hf8 := (G7.out.keep B8).n.f
                clear B8 hpr8 r0 hb4 G7 hf4 HSv
                go_wp2
                go_roundw
                case rel => exact ⟨p + 1, _, true, by rw [Int.natCast_add]; rfl, rfl, by omega, GP⟩
                case measure =>
                  simp [RowKit.intOf]
                  omega
              | some s =>
                rw [hNm] at hb4
                change w4.cell? _ = some (Value.slice (some ⟨s.b, s.o, none⟩) s.xs.length s.k) at hb4
                have hcs : CostOk g.T s.xs := ((G7.out.pw hk hlt (Nat.le_of_lt HL.out)).pw m s.xs (by unfold PL; rw [hNm]; rfl)).1.costOk
                have HSI := Lib.hid (G7.out.n.i m s hNm)
                have HC2 := Lib.hid (fun d os => HC.out R s hcR hcs (Go.Sort.grow (redrawn w4 d) os) (G7.out.o.l.s.i.keep (below_regrown w4 d os)) (HRI.out.keep (below_regrown w4 d os)) (HSI.out.keep (below_regrown w4 d os)))
                have htk : takes g.T (PL N) (g.T.to p) (newR g.T (PL H) p) = decide (cmpR g.T R.xs s.xs < 0) := by
                  unfold takes PL
                  rw [HM.out, hNm]
                  show decide (cmpR g.T (newR g.T (fun m => (H m).map Rt.xs) p) s.xs < 0) = _
                  rw [← show R.xs = newR g.T (fun m => (H m).map Rt.xs) p from HRX.out]
                have HTK := Lib.hid htk
                have r0 := fun p : Regrown => cell_regrown hb4 p.d p.os
                clear htk hNm
                obtain ⟨c, hc⟩ : ∃ c, cmpR g.T R.xs s.xs = c := ⟨_, rfl⟩
                rw [hc] at HTK HC2
                clear hc
                go_upto_region 12 with fail
                refine wp_region_quiet_below (by kernel_rfl) (by kernel_rfl) ?_
                repeat (go_big_quiet_step (fail))
                refine wpQuiet_load_wanted (by rfl) (.tmp 6) 55 rfl w.heap.size 0 (Sv g) rfl agg55 (size55 g _ _) (holds_regrown HSv.out) ?_
                simp only [Act.put, List.setIfInBounds_toArray, List.set_cons_succ, List.set_cons_zero]
                repeat (go_big_quiet_step (with_reducible exact Calls.regrown_of (HC2.out _ _)))
                refine wpQuiet_nil ?_
                rintro W8 ⟨pr8, hpr8⟩
                have B8 : Below w4.heap.size w4 W8 := by rw [hpr8]; exact below_regrown w4 pr8.d pr8.os
                have hb8 := below_keep B8 hb4
                have hf8 := (G7.out.keep B8).n.f
                by_cases hc0 : c < 0
                · have GP := Lib.hid ((G7.out.keep B8).put HG.out HM.out HGO.out (by rw [HTK.out]; exact decide_eq_true hc0) (HRI.out.keep B8) HRX.out hnb7 hnb8 hRk)
                  clear B8 hpr8 r0 hb4 G7 hf4 HSv HC2
                  go_wp2
                  go_roundw
                  case rel => exact ⟨p + 1, _, true, by rw [Int.natCast_add]; rfl, rfl, by omega, GP⟩
                  case measure =>
                    simp [RowKit.intOf]
                    omega
                · have GP := Lib.hid ((G7.out.keep B8).skip2 (by rw [HTK.out]; exact decide_eq_false hc0))
                  clear B8 hpr8 r0 hb4 G7 hf4 HSv HC2
                  go_wp2
                  go_roundw
                  case rel => exact ⟨p + 1, N, bt, by rw [Int.natCast_add]; rfl, rfl, by omega, GP⟩
                  case measure =>
                    simp [RowKit.intOf]
                    omega
            · have x7 : ¬ (n : Int) = (a : Int) := by omega
              have x8 : ((n : Int) == (a : Int)) = false := beq_eq_false_iff_ne.2 x7
              have c1 := G6.out.o.l.s.c1
              cases hH : H n with
              | none =>
                have GS := Lib.hid (G6.out.skip (show goes g.T a (PL H) p = false by
                  unfold goes PL
                  rw [HN.out, HM.out, hH]
                  simp [hna]))
                rw [hH] at kb
                change W6.cell? _ = some (Value.slice none 0 0) at kb
                clear G6
                generalize p / 2 = j at *
                clear hna hma
                go_wp2
                go_roundw
                case rel => exact ⟨p + 1, N, bt, by rw [Int.natCast_add]; rfl, rfl, by omega, GS⟩
                case measure =>
                  simp [RowKit.intOf]
                  omega
              | some r =>
                rw [hH] at kb
                change W6.cell? _ = some (Value.slice (some ⟨r.b, r.o, none⟩) r.xs.length r.k) at kb
                cases hst : g.T.st n with
                | true =>
                  have GS := Lib.hid (G6.out.skip (show goes g.T a (PL H) p = false by
                    unfold goes PL
                    rw [HN.out, HM.out, hH]
                    simp [hna, hst]))
                  rw [hst] at ks
                  clear G6 hst
                  generalize p / 2 = j at *
                  clear hna hma
                  go_wp2
                  go_roundw
                  case rel => exact ⟨p + 1, N, bt, by rw [Int.natCast_add]; rfl, rfl, by omega, GS⟩
                  case measure =>
                    simp [RowKit.intOf]
                    omega
                | false =>
                  have HGO := Lib.hid (show goes g.T a (PL H) p = true by
                    unfold goes PL
                    rw [HN.out, HM.out, hH]
                    simp [hna, hma, hst])
                  have HNW := Lib.hid (show newR g.T (PL H) p = r.xs ++ [p] by
                    unfold newR PL
                    rw [HN.out, hH]
                    rfl)
                  rw [hst] at ks
                  clear hst
                  generalize p / 2 = j at *
                  go_upto_region 11 with fail
                  obtain ⟨j0, hj0, hk0, hk1, hk2⟩ := info_parts info3
                  have hrk := G6.out.o.h.k n r hH
                  have hr8 := (G6.out.o.bi.pw n r.xs (by unfold PL; rw [hH]; rfl)).1.le
                  have hrk' : (r.xs.length : Int) ≤ (r.k : Int) := by omega
                  have HOL := Lib.hid (fun j u (hj : (r.xs.map fun q : Nat => Value.int .i64 (q : Int))[j]? = some u) => show ((W6.alloc (.cells #[.int .i64 (p : Int)] 3)).drew).cell? ((⟨r.b, r.o, none⟩ : Addr).add j) = some u from by
                    rw [add_off]
                    have hj2 : j < r.xs.length := by
                      have := (List.getElem?_eq_some_iff.1 hj).1
                      simpa using this
                    have := G6.out.o.h.i n r hH j hj2
                    rw [← hj]
                    refine ((World.cell?_alloc_lt _ _ _ (World.block_lt_of_cell? _ _ this)).trans this).trans ?_
                    simp [Rt.f, List.getD_eq_getElem?_getD, hj2])
                  refine wp_region_flagL 13 (by kernel_rfl) (by kernel_rfl) (fun w' => w'.cell? ⟨w.heap.size + 3, n, none⟩ = some (.slice (some ⟨r.b, r.o, none⟩) r.xs.length r.k)) kb ?_
                  simp only [List.take_succ_cons, List.take_zero, List.drop_succ_cons, List.drop_zero]
                  repeat (go_big_quiet_step ((intros; rfl)))
                  refine wpQuiet_load_one rfl (.tmp 69) 37 rfl ⟨w.heap.size + 3, n, none⟩ (.slice (some ⟨r.b, r.o, none⟩) r.xs.length r.k) rfl noagg37 (fun w h => h) ?_
                  simp only [Act.put, List.setIfInBounds_toArray, List.set_cons_succ, List.set_cons_zero]
                  repeat (go_big_quiet_step ((intros; rfl)))
                  refine wpQuiet_load_one rfl (.tmp 72) 37 rfl ⟨w.heap.size + 3, n, none⟩ (.slice (some ⟨r.b, r.o, none⟩) r.xs.length r.k) rfl noagg37 (fun w h => h) ?_
                  simp only [Act.put, List.setIfInBounds_toArray, List.set_cons_succ, List.set_cons_zero]
                  repeat (go_big_quiet_step ((intros; rfl)))
                  refine wpQuiet_load_one rfl (.tmp 76) 37 rfl ⟨w.heap.size + 3, n, none⟩ (.slice (some ⟨r.b, r.o, none⟩) r.xs.length r.k) rfl noagg37 (fun w h => h) ?_
                  simp only [Act.put, List.setIfInBounds_toArray, List.set_cons_succ, List.set_cons_zero]
                  repeat (go_big_quiet_step ((intros; rfl)))
                  refine wpQuiet_nil ?_
                  change tailG _ _ _ _ _ W6.drew
                  simp only [tailG]
                  have kb4 : ∀ o, ((W6.alloc o).drew).cell? ⟨w.heap.size + 3, n, none⟩ = some (.slice (some ⟨r.b, r.o, none⟩) r.xs.length r.k) := fun o => (World.cell?_alloc_lt _ _ _ (World.block_lt_of_cell? _ _ kb)).trans kb
                  refine wp_of_run (v := .slice (some ⟨W6.heap.size, 0, none⟩) 1 1) (w' := (W6.alloc (.cells #[.int .i64 (p : Int)] 3)).drew) (by simp [execOp, go_sem]) ⟨fun _ => kb4 _, ?_⟩
                  simp only [Act.put, List.setIfInBounds_toArray, List.set_cons_succ, List.set_cons_zero]
                  refine wp_append_growsT (.tmp 79) (.tmp 81) 37 rfl 3 j0 _ 1 8 Try.underlying37 hj0 hk0 hk1 hk2 rfl (by omega) (some ⟨r.b, r.o, none⟩) r.xs.length r.xs.length (r.xs.map fun q : Nat => Value.int .i64 (q : Int)) rfl (fun e => by cases e) (by simp) (fun b e j u hj => by cases e; exact HOL.out j u hj) ⟨W6.heap.size, 0, none⟩ 1 1 [.int .i64 (p : Int)] rfl rfl (fun j u hj => by rw [add_off]; exact holds_alloc W6 [.int .i64 (p : Int)] 3 rfl j u hj) (one_one15 _) (by omega) (by unfold maxLen; omega) (by omega) ?_
                  intro v' w4 hown hgrow
                  have B4 := Lib.hid (show Below W6.heap.size W6 w4 from ((below_alloc (Below.refl _ _) (.cells #[.int .i64 (p : Int)] 3)).drew.grown hgrow (Nat.le_of_lt (by simp [World.drew])) (fun k e => by cases e)))
                  obtain ⟨R, hRv, hRx, hRi, hRb, hRlt, hRk⟩ := owns_rt (xs := newR g.T (PL H) p) (n := r.xs.length + 1) (by rw [HNW.out]; simp) (by omega) (by rw [HNW.out]; simpa using hown)
                  have G7 := Lib.hid (G6.out.keep B4.out)
                  have hRb' : W6.heap.size < R.b := by omega
                  have HRI := Lib.hid hRi
                  have HRX := Lib.hid hRx
                  have hnb6 := G6.out.n.lt
                  have hsz6 := G6.out.o.l.z
                  change v' = Value.slice (some ⟨R.b, R.o, none⟩) R.xs.length R.k at hRv
                  subst hRv
                  refine ⟨fun _ => below_keep B4.out kb, ?_⟩
                  simp only [Act.put, List.setIfInBounds_toArray, List.set_cons_succ, List.set_cons_zero]
                  refine wp_of_run (v := .slice (some ⟨R.b, R.o, none⟩) R.xs.length R.k) (w' := w4) (by simp [execOp, go_sem]) ⟨fun h => absurd rfl h, ?_⟩
                  refine NoPanic.normal ?_
                  simp only [Act.put, List.setIfInBounds_toArray, List.set_cons_succ, List.set_cons_zero]
                  clear hown hgrow kb4 kb G6 hRx hRi hRb B4
                  have hm12b : m < 12 := by omega
                  have hb4 := G7.out.n.cell (m := m) hm12b
                  have hf4 := G7.out.n.f
                  have hcR : CostOk g.T R.xs := by rw [HRX.out]; exact newR_ok G7.out.o.bi HL.out
                  have hnb7 : R.b ≠ nb := by omega
                  have hnb8 : R.b ≠ w.heap.size + 3 := by omega
                  have HSv := Lib.hid (show Holds w4 w.heap.size (Sv g) from G7.out.o.l.s.h)
                  cases hNm : N m with
                  | none =>
                    have hta : takes g.T (PL N) (g.T.to p) (newR g.T (PL H) p) = true := by
                      unfold takes PL
                      rw [HM.out, hNm]
                      rfl
                    have HTA := Lib.hid hta
                    rw [hNm] at hb4
                    change w4.cell? _ = some (Value.slice none 0 0) at hb4
                    have r0 := fun p : Regrown => cell_regrown hb4 p.d p.os
                    clear hta hNm
                    go_upto_region 12 with fail
                    refine wp_region_quiet_below (by kernel_rfl) (by kernel_rfl) ?_
                    repeat (go_big_quiet_step (fail))
                    refine wpQuiet_nil ?_
                    rintro W8 ⟨pr8, hpr8⟩
                    have B8 : Below w4.heap.size w4 W8 := by rw [hpr8]; exact below_regrown w4 pr8.d pr8.os
                    have GP := Lib.hid ((G7.out.keep B8).put HG.out HM.out HGO.out HTA.out (HRI.out.keep B8) HRX.out hnb7 hnb8 hRk)
                    have hb8 := below_keep B8 hb4
                    have hf8 := (G7.out.keep B8).n.f
                    clear B8 hpr8 r0 hb4 G7 hf4 HSv
                    go_wp2
                    go_roundw
                    case rel => exact ⟨p + 1, _, true, by rw [Int.natCast_add]; rfl, rfl, by omega, GP⟩
                    case measure =>
                      simp [RowKit.intOf]
                      omega
                  | some s =>
                    rw [hNm] at hb4
                    change w4.cell? _ = some (Value.slice (some ⟨s.b, s.o, none⟩) s.xs.length s.k) at hb4
                    have hcs : CostOk g.T s.xs := ((G7.out.pw hk hlt (Nat.le_of_lt HL.out)).pw m s.xs (by unfold PL; rw [hNm]; rfl)).1.costOk
                    have HSI := Lib.hid (G7.out.n.i m s hNm)
                    have HC2 := Lib.hid (fun d os => HC.out R s hcR hcs (Go.Sort.grow (redrawn w4 d) os) (G7.out.o.l.s.i.keep (below_regrown w4 d os)) (HRI.out.keep (below_regrown w4 d os)) (HSI.out.keep (below_regrown w4 d os)))
                    have htk : takes g.T (PL N) (g.T.to p) (newR g.T (PL H) p) = decide (cmpR g.T R.xs s.xs < 0) := by
                      unfold takes PL
                      rw [HM.out, hNm]
                      show decide (cmpR g.T (newR g.T (fun m => (H m).map Rt.xs) p) s.xs < 0) = _
                      rw [← show R.xs = newR g.T (fun m => (H m).map Rt.xs) p from HRX.out]
                    have HTK := Lib.hid htk
                    have r0 := fun p : Regrown => cell_regrown hb4 p.d p.os
                    clear htk hNm
                    obtain ⟨c, hc⟩ : ∃ c, cmpR g.T R.xs s.xs = c := ⟨_, rfl⟩
                    rw [hc] at HTK HC2
                    clear hc
                    go_upto_region 12 with fail
                    refine wp_region_quiet_below (by kernel_rfl) (by kernel_rfl) ?_
                    repeat (go_big_quiet_step (fail))
                    refine wpQuiet_load_wanted (by rfl) (.tmp 6) 55 rfl w.heap.size 0 (Sv g) rfl agg55 (size55 g _ _) (holds_regrown HSv.out) ?_
                    simp only [Act.put, List.setIfInBounds_toArray, List.set_cons_succ, List.set_cons_zero]
                    repeat (go_big_quiet_step (with_reducible exact Calls.regrown_of (HC2.out _ _)))
                    refine wpQuiet_nil ?_
                    rintro W8 ⟨pr8, hpr8⟩
                    have B8 : Below w4.heap.size w4 W8 := by rw [hpr8]; exact below_regrown w4 pr8.d pr8.os
                    have hb8 := below_keep B8 hb4
                    have hf8 := (G7.out.keep B8).n.f
                    by_cases hc0 : c < 0
                    · have GP := Lib.hid ((G7.out.keep B8).put HG.out HM.out HGO.out (by rw [HTK.out]; exact decide_eq_true hc0) (HRI.out.keep B8) HRX.out hnb7 hnb8 hRk)
                      clear B8 hpr8 r0 hb4 G7 hf4 HSv HC2
                      go_wp2
                      go_roundw
                      case rel => exact ⟨p + 1, _, true, by rw [Int.natCast_add]; rfl, rfl, by omega, GP⟩
                      case measure =>
                        simp [RowKit.intOf]
                        omega
                    · have GP := Lib.hid ((G7.out.keep B8).skip2 (by rw [HTK.out]; exact decide_eq_false hc0))
                      clear B8 hpr8 r0 hb4 G7 hf4 HSv HC2
                      go_wp2
                      go_roundw
                      case rel => exact ⟨p + 1, N, bt, by rw [Int.natCast_add]; rfl, rfl, by omega, GP⟩
                      case measure =>
                        simp [RowKit.intOf]
                        omega
        · have hpl1 : ¬ (p : Int) < (g.T.pn : Int) := by omega
          obtain rfl : p = g.T.pn := by omega
          have hnc := hCs_len N
          cases bt with
          | true =>
            have hn2 := GN.out.n.c
            have hf2 := GN.out.o.h.f
            have hs2 := GN.out.o.h.c
            go_wp2_with (first | ((with_reducible refine at_load 81 (.tmp 14) ?_); refine wpList_load_whole rfl (.tmp 14) 81 rfl nb 0 (hCs N) rfl agg81 (size81 N) hn2 ?_; simp only [Act.put, List.setIfInBounds_toArray, List.set_cons_succ, List.set_cons_zero]) | ((with_reducible refine at_store 81 (.tmp 13) (.tmp 102) ?_); refine wpList_store_whole rfl (.tmp 13) (.tmp 102) 81 rfl (w.heap.size + 3) 0 (hCs N) rfl rfl (size81 N) (fun j hj => by rw [hnc] at hj; exact hs2.some j (by rw [hCs_len]; exact hj)) (fun j _ => hf2 _) (hCs_one N) ?_; intro W9 hw9; simp only [Act.put, List.setIfInBounds_toArray, List.set_cons_succ, List.set_cons_zero]))
            have GX := Lib.hid (GN.out.next HG.out hk hlt hw9)
            go_roundw
            case rel => exact ⟨i + 1, N, by rw [Int.natCast_add]; rfl, by omega, GX⟩
            case measure =>
              simp [RowKit.intOf]
              omega
          | false =>
            have hA := Lib.hid (hdone.out _ GN.out.o (GN.out.stop hlt))
            have hb12 : (b : Int) < 12 := by omega
            have hkb := GN.out.o.h.cell (m := b) (by omega)
            clear GN hdone
            obtain ⟨vb, hvb⟩ : ∃ vb, hV (H b) = vb := ⟨_, rfl⟩
            rw [hvb] at hkb hA
            clear hvb
            go_wp2
            try rw [Exit.noGoto_ret]
            go_ret
            exact hA.out
    · have hlt1 : ¬ (i : Int) < 8 := by omega
      obtain rfl : i = 8 := by omega
      have hA := Lib.hid (hdone.out _ GO.out (by rw [← GO.out.e]; rfl))
      have hb12 : (b : Int) < 12 := by omega
      have hkb := GO.out.h.cell (m := b) (by omega)
      clear GO hdone
      obtain ⟨vb, hvb⟩ : ∃ vb, hV (H b) = vb := ⟨_, rfl⟩
      rw [hvb] at hkb hA
      clear hvb
      go_wp2
      try rw [Exit.noGoto_ret]
      go_ret
      exact hA.out

end Go.Proofs.Ytjhpbemnklpefaa

namespace Go.Proofs.Ytjhpbemnklpefaa
open Go.RowKit Go.Lib Plain

theorem agg58 : ∀ w, (isAgg 58).run Try.prog w = .ok true w := fun w => by kernel_rfl
theorem agg59 : ∀ w, (isAgg 59).run Try.prog w = .ok true w := fun w => by kernel_rfl
theorem size58 : ∀ w, (sizeOf 58).run Try.prog w = .ok z12.length w := fun w => by kernel_rfl
theorem size59 : ∀ w, (sizeOf 59).run Try.prog w = .ok z24.length w := fun w => by kernel_rfl
def LeastA (g : Tg) (a b : Nat) (w : World) (e : Ending) (w' : World) : Prop :=
  (∃ r : Rt, e = .returned (.tuple #[r.v, .int .i64 0]) ∧ leastP g.T a b = some r.xs ∧ r.In w' ∧ Below w.heap.size w w') ∨ (e = .returned (.tuple #[.slice none 0 0, .int .i64 4]) ∧ leastP g.T a b = none ∧ Below w.heap.size w w')

attribute [local go_sem] eql37
set_option maxHeartbeats 16000000 in
set_option maxRecDepth 100000 in
theorem Least_any (g : Tg) (hk : OkT g.T) (a b : Nat) (ha : a < g.T.n) (hb : b < g.T.n) (hab : a ≠ b) (w : World) (hg : g.In w) :
    Calls Try.prog 6 #[.agg #[.int .i64 (g.T.n : Int), .slice (some ⟨g.bs, g.os, none⟩) g.T.n g.ks, .slice (some ⟨g.bl, g.ol, none⟩) g.T.ls.length g.kl], .int .i64 (a : Int), .int .i64 (b : Int), .agg #[.slice none 0 0, .slice none 0 0], .int .i64 8] w (LeastA g a b w) := by
  have HG := Lib.hid hg
  have HB := Lib.hid (fun W hW => between_any g hk a b ha hb hab W hW)
  have HL := Lib.hid (fun W hW => least_any g hk a b ha hb W hW)
  have hln : (Sv g).length = 99 := sFn_len g _ _
  clear hg
  go_enter Try.func6, Try.ntmps6
  go_upto_region 1 with fail
  refine wp_world ?_
  intro V hV
  have HV := Lib.hid (show Below w.heap.size w V by subst hV; exact below_alloc (below_alloc (Below.refl _ _) _) _)
  have TV := Lib.hid (show TAt g w.heap.size V by subst hV; exact (TAt.new HG.out 29).keep (below_alloc (Below.refl _ _) _))
  have kA := show V.cell? ⟨w.heap.size + 1, 0, none⟩ = some (.slice none 0 0) by subst hV; simp [go_sem]
  have kB := show V.cell? ⟨w.heap.size + 1, 1, none⟩ = some (.slice none 0 0) by subst hV; simp [go_sem]
  clear hV
  have c0 := TV.out.c0; have c1 := TV.out.c1; have c2 := TV.out.c2
  go_wp2_with fail
  refine (HB.out _ TV.out.i).mono ?_
  rintro e w1 ⟨rfl, hb1⟩
  have B1 := Lib.hid (below_step HV.out hb1)
  have kA1 := below_keep hb1 kA
  have kB1 := below_keep hb1 kB
  clear hb1 HV TV HB c0 c1 c2 kA kB
  go_upto_region 2 with ((with_reducible refine at_store 55 (.tmp 12) (.tmp 26) ?_); refine wpList_store_whole rfl (.tmp 12) (.tmp 26) 55 rfl w1.heap.size 0 (Sv g) rfl rfl (size55 g _ _) (fun j hj => by rw [hln] at hj; exact (holds_alloc w1 zS 55 rfl).some j (by rw [zS_len]; exact hj)) (fun j _ => frozen_new _ _ _ _ rfl) (sFn_one g _ _) ?_; intro W2 hw2; simp only [Act.put, List.setIfInBounds_toArray, List.set_cons_succ, List.set_cons_zero])
  have b2 : Below w1.heap.size w1 W2 := hw2.below _ _ (Nat.le_refl _) (below_alloc (Below.refl _ _) _)
  have S2 := Lib.hid (show Holds W2 w1.heap.size (Sv g) from hw2.here)
  have B2 := Lib.hid (below_step B1.out b2)
  have kA2 := below_keep b2 kA1
  have kB2 := below_keep b2 kB1
  have k0 : W2.cell? ⟨w1.heap.size, 0, none⟩ = some (.int .i64 (g.T.n : Int)) := S2.out 0 _ rfl
  have z2 : W2.heap.size = w1.heap.size + 1 := by rw [hw2.size]; simp
  clear hw2 b2 B1 kA1 kB1
  obtain ⟨sb, hsb⟩ : ∃ sb, sb = w1.heap.size := ⟨_, rfl⟩
  rw [← hsb] at S2 k0 z2 ⊢
  clear hsb
  have y1 : w.heap.size + 1 < W2.heap.size := World.block_lt_of_cell? _ _ kA2
  have y2 : w.heap.size + 1 < W2.heap.size + 1 := by omega
  have y3 : sb < W2.heap.size := by omega
  have y4 : sb < W2.heap.size + 1 := by omega
  clear z2
  go_wp2
  go_loopw [34] (fun p wr => p = .int .i64 0 ∧ wr = W2.alloc (.cells z12.toArray 58)) (fun _ _ => 0)
  case atStart => exact ⟨rfl, rfl⟩
  case round =>
    obtain ⟨rfl, rfl⟩ := hrel
    go_wp2
    go_loopw [53] (fun p wr => p = .int .i64 0 ∧ wr = (W2.alloc (.cells z12.toArray 58)).alloc (.cells z24.toArray 59)) (fun _ _ => 0)
    case atStart => exact ⟨rfl, rfl⟩
    case round =>
      obtain ⟨rfl, rfl⟩ := hrel
      have hA := Lib.hid (holds_alloc W2 z12 58 (b := W2.heap.size) rfl)
      have hA2 := Lib.hid (hA.out.keep (below_alloc (Below.refl _ _) (.cells z24.toArray 59)))
      have hB2 := Lib.hid (holds_alloc (W2.alloc (.cells z12.toArray 58)) z24 59 (b := W2.heap.size + 1) (by simp))
      have hS2 := Lib.hid (S2.out.keep (below_alloc (below_alloc (Below.refl _ W2) (.cells z12.toArray 58)) (.cells z24.toArray 59)))
      have hb4 := Lib.hid (below_alloc (below_alloc B2.out (.cells z12.toArray 58)) (.cells z24.toArray 59))
      generalize ((W2.alloc (.cells z12.toArray 58)).alloc (.cells z24.toArray 59)) = W4 at *
      have hgi := HG.out.keep hb4.out
      have HLW := Lib.hid (HL.out W4 hgi)
      clear hgi
      go_wp2_with (first | ((with_reducible refine at_load 55 (.tmp 12) ?_); refine wpList_load_whole rfl (.tmp 12) 55 rfl sb 0 (Sv g) rfl agg55 (size55 g _ _) hS2.out ?_; simp only [Act.put, List.setIfInBounds_toArray, List.set_cons_succ, List.set_cons_zero]) | ((with_reducible refine at_load 58 (.tmp 14) ?_); refine wpList_load_whole rfl (.tmp 14) 58 rfl W2.heap.size 0 z12 rfl agg58 size58 hA2.out ?_; simp only [Act.put, List.setIfInBounds_toArray, List.set_cons_succ, List.set_cons_zero]) | ((with_reducible refine at_load 59 (.tmp 17) ?_); refine wpList_load_whole rfl (.tmp 17) 59 rfl (W2.heap.size + 1) 0 z24 rfl agg59 size59 hB2.out ?_; simp only [Act.put, List.setIfInBounds_toArray, List.set_cons_succ, List.set_cons_zero]))
      refine HLW.out.mono ?_
      rintro e W5 ⟨x, rfl, hx, hin, hb5⟩
      have B5 := Lib.hid (below_step hb4.out hb5)
      have HX := Lib.hid hx
      have HI := Lib.hid hin
      clear hb5 hx hin
      cases x with
      | none =>
        simp only [hV]
        go_wp2
        go_ret2
        exact Or.inr ⟨rfl, HX.out.symm, B5.out⟩
      | some r =>
        simp only [hV]
        go_wp2
        go_ret2
        exact Or.inl ⟨r, rfl, HX.out.symm, HI.out r rfl, B5.out⟩

end Go.Proofs.Ytjhpbemnklpefaa
