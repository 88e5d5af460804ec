/-
  Texts of this claim laid together: TpAp, TpAq, TpAr.
-/
import Derived.RangeFuncFrom
import Derived.RangeFuncCalls
import Derived.Test.YtjhpbemnklpefaaMTpAo
namespace Go.Proofs.Ytjhpbemnklpefaa
open Go.RowKit Go.Lib Plain

/-- What apart asks of port i of the one and port j of the other. -/
def Plain.okP (T : Tp) (r s : List Nat) (i j : Nat) : Prop := r.getD i 0 / 2 ≠ s.getD j 0 / 2 ∧ (i + 1 < r.length → j + 1 < s.length → T.to (r.getD i 0) ≠ T.to (s.getD j 0))
def ApB (g : Tg) (r s : List Nat) (w : World) (e : Ending) (w' : World) : Prop := ∃ x : Bool, e = .returned (.bool x) ∧ (x = true ↔ AP g.T r s) ∧ Below w.heap.size w w'
theorem no_ap {T : Tp} {r s : List Nat} {i j : Nat} (hi : i < r.length) (hj : j < s.length) (h : ¬ okP T r s i j) : (false = true ↔ AP T r s) := ⟨(fun h => by cases h), fun ha => absurd (ha i j hi hj) h⟩
theorem half48 {P L : Nat} (h : P < 2 * L) (hl : L ≤ 24) : ∃ ph : Nat, Int.tdiv (P : Int) 2 = (ph : Int) ∧ (P : Int) / 2 = (ph : Int) ∧ Sm ph ∧ (P : Int) < 48 ∧ P < 48 ∧ P / 2 = ph := by
  refine ⟨P / 2, by rw [Int.tdiv_eq_ediv_of_nonneg (by omega)]; omega, by omega, smk (n := 0) (by omega) (by omega), by omega, by omega, rfl⟩
theorem lenm {n : Nat} (h : n ≤ 12) (h0 : 0 < n) : ∃ m : Nat, (n : Int) - 1 = (m : Int) ∧ Sm m ∧ ∀ i, i + 1 < n ↔ i < m := ⟨n - 1, by omega, smk (n := 0) (by omega) (by omega), fun i => by omega⟩
theorem eq_tt {a b : Nat} (h : a = b) : ((a : Int) == (b : Int)) = true := by subst h; exact beq_self_eq_true _

set_option maxHeartbeats 16000000 in
set_option maxRecDepth 100000 in
theorem apart_any (g : Tg) (hk : OkT g.T) (r s : Rt) (hr : CostOk g.T r.xs) (hs : CostOk g.T s.xs) (w : World) (hg : g.In w) (Hr : r.In w) (Hs : s.In w) :
    Calls Try.prog 20 #[.agg (Sv g).toArray, .slice (some ⟨r.b, r.o, none⟩) r.xs.length r.k, .slice (some ⟨s.b, s.o, none⟩) s.xs.length s.k] w (ApB g r.xs s.xs w) := by
  have HB := Lib.hid (below_alloc (Below.refl _ w) (.cells (Sv g).toArray 55))
  have HS := Lib.hid (SAt.new hg 55)
  have HRr := Lib.hid (Hr.keep HB.out)
  have HRs := Lib.hid (Hs.keep HB.out)
  have HK := Lib.hid (And.intro hk (And.intro hr hs))
  have wA := smA
  have hz : w.heap.size < (w.alloc (.cells (Sv g).toArray 55)).heap.size := by simp
  clear hk hr hs hg Hr Hs
  generalize (Sv g).toArray = A at *
  go_enter Try.func20, Try.ntmps20
  go_wp2
  obtain ⟨V, hV⟩ : ∃ V, V = w.alloc (.cells A 55) := ⟨_, rfl⟩
  rw [← hV] at HB HS HRr HRs hz ⊢
  clear hV
  have HZ := Lib.hid hz
  clear hz
  go_loopw [14] (fun p wr => ∃ i : Nat, p = .int .i64 (i : Int) ∧ i ≤ r.xs.length ∧ Hid (Below V.heap.size V wr ∧ ∀ i', i' < i → ∀ j, j < s.xs.length → okP g.T r.xs s.xs i' j)) (fun p _ => r.xs.length - (RowKit.intOf p).toNat)
  case atStart => exact ⟨0, rfl, Nat.zero_le _, Lib.hid ⟨Below.refl _ _, fun i' h => absurd h (Nat.not_lt_zero _)⟩⟩
  case round =>
    obtain ⟨i, rfl, hi, H1⟩ := hrel
    by_cases hlt : i < r.xs.length
    · have c1 : (i : Int) < (r.xs.length : Int) := lt_int hlt
      have k0 := below_keep H1.out.1 (HRr.out i hlt)
      have HI := Lib.hid hlt
      have hp := HK.out.2.1.pt i hlt
      change r.f i < g.T.pn at hp
      obtain ⟨P, hP⟩ : ∃ P, P = r.f i := ⟨_, rfl⟩
      rw [← hP] at k0 hp
      have HP := Lib.hid hP
      obtain ⟨ph, e1, e2, sp, bP, hP48, hph⟩ := half48 hp HK.out.1.l24
      have HP2 := Lib.hid (And.intro hP48 hph)
      clear hlt hi hp hP hP48 hph
      go_wp2
      go_loopw [21] (fun p wx => ∃ j : Nat, p = .int .i64 (j : Int) ∧ j ≤ s.xs.length ∧ Hid (Below V.heap.size V wx ∧ (∀ i', i' < i → ∀ j, j < s.xs.length → okP g.T r.xs s.xs i' j) ∧ ∀ j', j' < j → okP g.T r.xs s.xs i j')) (fun p _ => s.xs.length - (RowKit.intOf p).toNat)
      case atStart => exact ⟨0, rfl, Nat.zero_le _, Lib.hid ⟨H1.out.1, H1.out.2, fun i' h => absurd h (Nat.not_lt_zero _)⟩⟩
      case round =>
        clear H1 k0
        obtain ⟨j, rfl, hj, H2⟩ := hrel
        by_cases hjl : j < s.xs.length
        · have c2 : (j : Int) < (s.xs.length : Int) := lt_int hjl
          have k0 := below_keep H2.out.1 (HRs.out j hjl)
          have HJ := Lib.hid hjl
          have hq := HK.out.2.2.pt j hjl
          change s.f j < g.T.pn at hq
          obtain ⟨Q, hQ⟩ : ∃ Q, Q = s.f j := ⟨_, rfl⟩
          rw [← hQ] at k0 hq
          have HQ := Lib.hid hQ
          obtain ⟨qh, e3, e4, sq, bQ, hQ48, hqh⟩ := half48 hq HK.out.1.l24
          have HQ2 := Lib.hid (And.intro hQ48 hqh)
          obtain ⟨m1, em1, sm1, hm1⟩ := lenm HK.out.2.1.len (Nat.lt_of_le_of_lt (Nat.zero_le _) HI.out)
          obtain ⟨m2, em2, sm2, hm2⟩ := lenm HK.out.2.2.len (Nat.lt_of_le_of_lt (Nat.zero_le _) hjl)
          have HM := Lib.hid (And.intro hm1 hm2)
          have c3 := below_keep H2.out.1 (HS.out.to P HP2.out.1)
          have c4 := below_keep H2.out.1 (HS.out.to Q HQ2.out.1)
          clear hjl hj hq hQ hQ48 hqh hm1 hm2
          go_upto_region 7 with fail
          go_cut [11] (fun s11 wx => ∃ x : Bool, s11 = .bool x ∧ Hid ((x = true ↔ i + 1 < r.xs.length ∧ j + 1 < s.xs.length) ∧ wx = wr))
          case first =>
            by_cases h1 : i < m1
            · have h1z : (i : Int) < (m1 : Int) := lt_int h1
              by_cases h2 : j < m2
              · have h2z : (j : Int) < (m2 : Int) := lt_int h2
                go_wp2
                go_meet
                exact ⟨true, rfl, Lib.hid ⟨⟨fun _ => ⟨(HM.out.1 i).2 h1, (HM.out.2 j).2 h2⟩, fun _ => rfl⟩, rfl⟩⟩
              · have h2z : ¬ (j : Int) < (m2 : Int) := fun h => h2 (Int.ofNat_lt.1 h)
                go_wp2
                go_meet
                exact ⟨false, rfl, Lib.hid ⟨⟨(fun h => by cases h), fun h => absurd ((HM.out.2 j).1 h.2) h2⟩, rfl⟩⟩
            · have h1z : ¬ (i : Int) < (m1 : Int) := fun h => h1 (Int.ofNat_lt.1 h)
              go_wp2
              go_meet
              exact ⟨false, rfl, Lib.hid ⟨⟨(fun h => by cases h), fun h => absurd ((HM.out.1 i).1 h.1) h1⟩, rfl⟩⟩
          case rest =>
            obtain ⟨x, rfl, Hx⟩ := hcut
            have hwc := Hx.out.2
            subst hwc
            clear em1 em2 sm1 sm2
            have r0 := fun p : Regrown => cell_regrown c3 p.d p.os
            have r1 := fun p : Regrown => cell_regrown c4 p.d p.os
            have HT : Hid (g.T.to P = g.T.to (r.xs.getD i 0) ∧ g.T.to Q = g.T.to (s.xs.getD j 0)) := Lib.hid ⟨by rw [HP.out]; rfl, by rw [HQ.out]; rfl⟩
            have HH : Hid (ph = r.xs.getD i 0 / 2 ∧ qh = s.xs.getD j 0 / 2) := Lib.hid ⟨by rw [← HP2.out.2, HP.out]; rfl, by rw [← HQ2.out.2, HQ.out]; rfl⟩
            generalize g.T.to P = T1 at *
            generalize g.T.to Q = T2 at *
            go_upto_region 8 with fail
            go_cut [56] (fun s56 wx => ∃ z : Bool, s56 = .bool z ∧ Hid ((z = false ↔ okP g.T r.xs s.xs i j) ∧ Below wc.heap.size wc wx))
            case first =>
              by_cases hE : ph = qh
              · subst hE
                refine wp_region_quiet_below (by kernel_rfl) (by kernel_rfl) ?_
                repeat (go_big_quiet_step (fail))
                refine wpQuiet_nil ?_
                rintro W6 ⟨pr, hpr⟩
                have B6 : Below wc.heap.size wc W6 := by rw [hpr]; exact below_regrown wc pr.d pr.os
                clear hpr
                go_wp2
                go_meet
                exact ⟨true, rfl, Lib.hid ⟨⟨(fun h => by cases h), fun h => absurd (HH.out.1.symm.trans HH.out.2) h.1⟩, B6⟩⟩
              · have hn1 : ¬ (ph : Int) = (qh : Int) := fun h => hE (Int.ofNat.inj h)
                have hn2 := eq_ff hE
                cases x with
                | false =>
                  refine wp_region_quiet_below (by kernel_rfl) (by kernel_rfl) ?_
                  repeat (go_big_quiet_step (fail))
                  refine wpQuiet_nil ?_
                  rintro W6 ⟨pr, hpr⟩
                  have B6 : Below wc.heap.size wc W6 := by rw [hpr]; exact below_regrown wc pr.d pr.os
                  clear hpr
                  go_wp2
                  go_meet
                  exact ⟨false, rfl, Lib.hid ⟨⟨fun _ => ⟨fun h => hE (HH.out.1.trans (h.trans HH.out.2.symm)), fun h1 h2 => by have := Hx.out.1.2 ⟨h1, h2⟩; cases this⟩, fun _ => rfl⟩, B6⟩⟩
                | true =>
                  by_cases hT : T1 = T2
                  · subst hT
                    refine wp_region_quiet_below (by kernel_rfl) (by kernel_rfl) ?_
                    repeat (go_big_quiet_step (fail))
                    refine wpQuiet_nil ?_
                    rintro W6 ⟨pr, hpr⟩
                    have B6 : Below wc.heap.size wc W6 := by rw [hpr]; exact below_regrown wc pr.d pr.os
                    clear hpr
                    go_wp2
                    go_meet
                    exact ⟨true, rfl, Lib.hid ⟨⟨(fun h => by cases h), fun h => absurd (HT.out.1.symm.trans HT.out.2) (h.2 (Hx.out.1.1 (by first | rfl | trivial)).1 (Hx.out.1.1 (by first | rfl | trivial)).2)⟩, B6⟩⟩
                  · have hn3 : ¬ (T1 : Int) = (T2 : Int) := fun h => hT (Int.ofNat.inj h)
                    have hn4 := eq_ff hT
                    refine wp_region_quiet_below (by kernel_rfl) (by kernel_rfl) ?_
                    repeat (go_big_quiet_step (fail))
                    refine wpQuiet_nil ?_
                    rintro W6 ⟨pr, hpr⟩
                    have B6 : Below wc.heap.size wc W6 := by rw [hpr]; exact below_regrown wc pr.d pr.os
                    clear hpr
                    go_wp2
                    go_meet
                    exact ⟨false, rfl, Lib.hid ⟨⟨fun _ => ⟨fun h => hE (HH.out.1.trans (h.trans HH.out.2.symm)), fun _ _ h => hT (HT.out.1.trans (h.trans HT.out.2.symm))⟩, fun _ => rfl⟩, B6⟩⟩
            case rest =>
              obtain ⟨z, rfl, Hz⟩ := hcut
              have B7 := Lib.hid (below_step H2.out.1 Hz.out.2)
              clear r0 r1 c3 c4 k0 e1 e2 e3 e4
              cases z
              · have w1 := Lib.hid (smC j (smk (n := 0) (Nat.zero_le _) (Nat.lt_of_lt_of_le HJ.out (Nat.le_trans HK.out.2.2.len (by decide)))))
                go_wp2
                go_roundw
                case rel => exact ⟨j + 1, by first | rw [w1.out] | rfl, HJ.out, Lib.hid ⟨B7.out, H2.out.2.1, fun j' hj' => by
                  rcases Nat.lt_succ_iff_lt_or_eq.1 hj' with h | h
                  · exact H2.out.2.2 j' h
                  · rw [h]
                    exact Hz.out.1.1 rfl⟩⟩
                case measure => (first | (rw [w1.out]; exact measU HJ.out) | exact measU HJ.out)
              · have HF := Lib.hid (no_ap HI.out HJ.out (fun h => by have := Hz.out.1.2 h; cases this))
                go_wp2
                go_ret
                exact ⟨false, rfl, HF.out, below_step HB.out B7.out⟩
        · have c2 : ¬ (j : Int) < (s.xs.length : Int) := fun h => hjl (Int.ofNat_lt.1 h)
          have w1 := Lib.hid (smC i (smk (n := 0) (Nat.zero_le _) (Nat.lt_of_lt_of_le HI.out (Nat.le_trans HK.out.2.1.len (by decide)))))
          have HJ : Hid (j = s.xs.length) := Lib.hid (Nat.le_antisymm hj (Nat.le_of_not_lt hjl))
          clear hj hjl
          go_wp2
          go_roundw
          case rel => exact ⟨i + 1, by first | rw [w1.out] | rfl, HI.out, Lib.hid ⟨H2.out.1, fun i' hi' j' hj' => by
            rcases Nat.lt_succ_iff_lt_or_eq.1 hi' with h | h
            · exact H2.out.2.1 i' h j' hj'
            · rw [h]
              exact H2.out.2.2 j' (by rw [HJ.out]; exact hj')⟩⟩
          case measure => (first | (rw [w1.out]; exact measU HI.out) | exact measU HI.out)
    · have c1 : ¬ (i : Int) < (r.xs.length : Int) := fun h => hlt (Int.ofNat_lt.1 h)
      have HF : Hid (AP g.T r.xs s.xs) := Lib.hid fun i' j' hi' hj' => H1.out.2 i' (Nat.lt_of_lt_of_le hi' (Nat.le_of_not_lt hlt)) j' hj'
      clear hi hlt
      go_wp2
      go_ret
      exact ⟨true, rfl, ⟨fun _ => HF.out, fun _ => rfl⟩, below_step HB.out H1.out.1⟩

end Go.Proofs.Ytjhpbemnklpefaa

namespace Go.Proofs.Ytjhpbemnklpefaa
open Go.RowKit Go.Lib Go.Shelf Plain
attribute [local go_sem] Oper.semAt_some

set_option maxHeartbeats 4000000 in
set_option maxRecDepth 100000 in
theorem values_any (q n cap : Nat) (w : World) : Calls Try.prog 18 #[.slice (some ⟨q, 0, none⟩) n cap] w fun e w' => e = .returned (.func (.func 38) #[] #[.pointer (some ⟨w.heap.size, 0, none⟩)]) ∧ w' = w.alloc (.cells #[.slice (some ⟨q, 0, none⟩) n cap] 33) := by
  go_enter Try.func18, Try.ntmps18
  go_wp2
  go_ret
  exact ⟨rfl, rfl⟩

def ValsQ (n : Nat) (J Jx : List (Fin n) → World → Prop) (e : Ending) (W' : World) : Prop := (∃ v, e = .returned v) ∧ ((∃ ys : List (Fin n), ys.map Fin.val = List.range n ∧ J ys W') ∨ (∃ pre, True ∧ Jx pre W'))
set_option maxHeartbeats 4000000 in
set_option maxRecDepth 100000 in
theorem vals1_in (F : Fence) (k : Nat) (hF : F.fn 38) (hro : F.round = none) (hk : 1 ≤ k) (l bv q n cap : Nat) (hn : n ≤ 110075314176) (f : Nat → Rt) (w : World) (J Jx : List (Fin n) → World → Prop)
    (hv : w.cell? ⟨bv, 0, none⟩ = some (.slice (some ⟨q, 0, none⟩) n cap)) (hc : ∀ i, i < n → w.cell? ⟨q, i, none⟩ = some (f i).v)
    (hY : ∀ pre (x : Fin n) W, J pre W → pre.length < n → YieldAt F (k - 1) Try.prog l #[(f x.val).v] W fun e W' => (e = .returned (.bool true) ∧ J (pre ++ [x]) W' ∧ Below w.heap.size W W') ∨ (e = .returned (.bool false) ∧ Jx (pre ++ [x]) W'))
    (W : World) (hW : Below w.heap.size w W) (h0 : J [] W) :
    CallsIn F k Try.prog 38 #[.func (.yield l) #[] #[], .pointer (some ⟨bv, 0, none⟩)] W (ValsQ n J Jx) := by
  refine callsIn_of_wp Try.func38 rfl hF ?_ hro
  simp only [Try.ntmps38, List.size_toArray, List.length_cons, List.length_nil, Nat.reduceAdd, Nat.reduceSub, Array.replicate_succ, Array.replicate_zero, List.push_toArray, List.append_toArray, List.nil_append, List.cons_append]
  have hv' := below_keep hW hv
  gi_wp2
  gi_loopw [7] (fun p wr => ∃ (i : Nat) (pre : List (Fin n)), p = .int .i64 (i : Int) ∧ i ≤ n ∧ Hid (pre.map Fin.val = List.range i ∧ J pre wr) ∧ Below w.heap.size w wr) (fun p _ => n - (RowKit.intOf p).toNat)
  case atStart => exact ⟨0, [], rfl, Nat.zero_le _, Lib.hid ⟨rfl, h0⟩, hW⟩
  case round =>
    obtain ⟨i, pre, rfl, hi, hJ, hB⟩ := hrel
    by_cases hlt : i < n
    · have c1 : (i : Int) < (n : Int) := lt_int hlt
      have ci := below_keep hB (hc i hlt)
      obtain ⟨fn, tmps, assign, body, hy, hR⟩ := hY pre ⟨i, hlt⟩ wr hJ.out.2 (by have := congrArg List.length hJ.out.1; simp at this; omega)
      have HI := Lib.hid hlt
      have HB := Lib.hid hB
      unfold Rt.v at ci hy
      clear hB
      gi_wp2
      refine hR.mono ?_
      rintro e W3 (⟨rfl, hJ3, hk3⟩ | ⟨rfl, hJx3⟩)
      · have HJ3 := Lib.hid hJ3
        have HK3 := Lib.hid hk3
        clear hJ3 hk3 hR hy
        have w1 := Lib.hid (smC i (sml hn (Nat.le_of_lt HI.out)))
        gi_wp2
        go_roundw
        case rel => exact ⟨i + 1, pre ++ [⟨i, hlt⟩], by first | rw [w1.out] | rfl, HI.out, Lib.hid ⟨by rw [List.range_succ, List.map_append, hJ.out.1]; rfl, HJ3.out⟩, HB.out.trans HK3.out⟩
        case measure => (first | (rw [w1.out]; exact measU HI.out) | exact measU HI.out)
      · have HJ3 := Lib.hid hJx3
        clear hJx3 hR hy
        gi_wp2
        refine bodyPost_ret (results_none rfl _ _ _) rfl ?_
        exact ⟨⟨_, rfl⟩, .inr ⟨_, trivial, HJ3.out⟩⟩
    · have c1 : ¬ (i : Int) < (n : Int) := fun h => hlt (Int.ofNat_lt.1 h)
      have hin : i = n := Nat.le_antisymm hi (Nat.le_of_not_lt hlt)
      have HJ := Lib.hid (show pre.map Fin.val = List.range n ∧ J pre wr from ⟨by have h2 := hJ.out.1; rw [hin] at h2; exact h2, hJ.out.2⟩)
      clear hlt hi hin hJ
      gi_wp2
      go_end0
      exact ⟨⟨_, rfl⟩, .inl ⟨pre, HJ.out.1, HJ.out.2⟩⟩

/-- As the law for a range wants it. -/
theorem vals1_stops (F : Fence) (k : Nat) (hF : F.fn 38) (hro : F.round = none) (hk : 1 ≤ k) (bv q n cap : Nat) (hn : n ≤ 110075314176) (f : Nat → Rt) (w : World)
    (hv : w.cell? ⟨bv, 0, none⟩ = some (.slice (some ⟨q, 0, none⟩) n cap)) (hc : ∀ i, i < n → w.cell? ⟨q, i, none⟩ = some (f i).v) :
    SeqStopsK F k Try.prog 38 #[.pointer (some ⟨bv, 0, none⟩)] (fun x : Fin n => #[(f x.val).v]) (Below w.heap.size) (fun ys => ys.map Fin.val = List.range n) (fun _ => True) n w := by
  intro l J Jx W hW hJ hJx hY h0
  exact vals1_in F k hF hro hk l bv q n cap hn f w J Jx hv hc hY W hW h0

end Go.Proofs.Ytjhpbemnklpefaa

namespace Go.Proofs.Ytjhpbemnklpefaa
open Go.RowKit Go.Lib Go.Shelf Plain

set_option maxHeartbeats 4000000 in
set_option maxRecDepth 100000 in
theorem pair1_any (g : Tg) (hk : OkT g.T) (bs ba : Nat) (r x : Rt) (hr : CostOk g.T r.xs) (hx : CostOk g.T x.xs) (w : World) (hS : SAt g bs w) (ha : w.cell? ⟨ba, 0, none⟩ = some (.slice (some ⟨r.b, r.o, none⟩) r.xs.length r.k)) (Hr : r.In w) (Hx : x.In w) :
    Calls Try.prog 19 #[.slice (some ⟨x.b, x.o, none⟩) x.xs.length x.k, .pointer (some ⟨bs, 0, none⟩), .pointer (some ⟨ba, 0, none⟩)] w (ApB g r.xs x.xs w) := by
  have HA := Lib.hid (apart_any g hk r x hr hx w hS.i Hr Hx)
  have HS := Lib.hid hS.h
  clear hS Hr Hx hr hx hk
  go_enter Try.func19, Try.ntmps19
  go_wp2_with ((with_reducible refine at_load 55 (.tmp 1) ?_); refine wpList_load_whole rfl (.tmp 1) 55 rfl bs 0 (Sv g) rfl agg55 (size55 g _ _) HS.out ?_; simp only [Act.put, List.setIfInBounds_toArray, List.set_cons_succ, List.set_cons_zero])
  refine HA.out.mono ?_
  rintro e w' ⟨z, rfl, h1, h2⟩
  have HP := Lib.hid (show ApB g r.xs x.xs w (.returned (.bool z)) w' from ⟨z, rfl, h1, h2⟩)
  clear h1 h2 HA
  go_wp2
  go_ret
  exact HP.out

theorem results_cell2 {fn : Func} {tmps : Array Value} {w : World} (s s2 : Nat) (t t2 : TypeId) (hr : fn.results = #[.cell s t, .cell s2 t2]) (b b2 : Nat) (v x : Value) (hs : tmps.getD s undef = .pointer (some ⟨b, 0, none⟩)) (hs2 : tmps.getD s2 undef = .pointer (some ⟨b2, 0, none⟩))
    (hL : (loadVar t ⟨b, 0, none⟩).run Try.prog w = .ok v w) (hL2 : (loadVar t2 ⟨b2, 0, none⟩).run Try.prog w = .ok x w) : (results fn tmps).run Try.prog w = .ok (.tuple #[v, x]) w := by
  simp only [Array.getD_eq_getD_getElem?] at hs hs2
  simp [results, hr, hs, hs2, hL, hL2, asAddr]
theorem loadVar_one {t : TypeId} {b : Nat} {v : Value} {w : World} (ht : ∀ w, (isAgg t).run Try.prog w = .ok false w) (h : w.cell? ⟨b, 0, none⟩ = some v) : (loadVar t ⟨b, 0, none⟩).run Try.prog w = .ok v w := by
  simp [loadVar, Sem.run_bind, ht, Result.andThen, go_sem, h]
theorem noagg4 : ∀ w, (isAgg 4).run Try.prog w = .ok false w := fun w => by kernel_rfl
theorem keepsO {W W' : World} (h : Below W.heap.size W W') : KeepsOthers W W' := KeepsOthers.of_grownBy (row := none) (Below.grow0 h) (fun j o e => by cases e)
/-- What first answers: the first route that is apart from r. -/
def FiQ (g : Tg) (r : Rt) (n : Nat) (f : Nat → Rt) (w : World) (e : Ending) (w' : World) : Prop :=
  ((∃ i, i < n ∧ AP g.T r.xs (f i).xs ∧ e = .returned (.tuple #[(f i).v, .bool true])) ∨ ((∀ i, i < n → ¬ AP g.T r.xs (f i).xs) ∧ e = .returned (.tuple #[.slice none 0 0, .bool false]))) ∧ Below w.heap.size w w'

end Go.Proofs.Ytjhpbemnklpefaa
namespace Go.Proofs.Ytjhpbemnklpefaa
open Go.RowKit Go.Lib Go.Shelf Plain
attribute [local go_sem] Oper.semAt_some

/-- The cells of first: the property, both results. -/
def FiC (z : Nat) (F v : Value) (b : Bool) (W : World) : Prop := W.cell? ⟨z, 0, none⟩ = some F ∧ (W.cell? ⟨z + 1, 0, none⟩ = some v ∧ W.frozen? ⟨z + 1, 0, none⟩ = false) ∧ W.cell? ⟨z + 1 + 1, 0, none⟩ = some (.bool b) ∧ W.frozen? ⟨z + 1 + 1, 0, none⟩ = false
theorem FiC.own {β : Type} (z : Nat) (F v : Value) (b : Bool) (n : Nat) : OwnFrom (β := β) n (fun _ W => FiC z F v b W) :=
  Own.from (fun s A B row hs hg hr => ⟨cell_kept hs.1 hg hr, ⟨cell_kept hs.2.1.1 hg hr, (frozen_kept hs.2.1.1 hg hr).trans hs.2.1.2⟩, cell_kept hs.2.2.1 hg hr, (frozen_kept hs.2.2.1 hg hr).trans hs.2.2.2⟩) _
theorem FiC.keep {z : Nat} {F v : Value} {b : Bool} {W W' : World} (h : FiC z F v b W) (hb : Below W.heap.size W W') : FiC z F v b W' :=
  ⟨below_keep hb h.1, ⟨below_keep hb h.2.1.1, by rw [hb.frozen (p := ⟨z + 1, 0, none⟩) (World.block_lt_of_cell? _ _ h.2.1.1)]; exact h.2.1.2⟩, below_keep hb h.2.2.1, by rw [hb.frozen (p := ⟨z + 1 + 1, 0, none⟩) (World.block_lt_of_cell? _ _ h.2.2.1)]; exact h.2.2.2⟩

set_option maxHeartbeats 4000000 in
set_option maxRecDepth 100000 in
theorem first_any (g : Tg) (hk : OkT g.T) (bv bs ba q n cap : Nat) (hn : n ≤ 110075314176) (f : Nat → Rt) (r : Rt) (hr : CostOk g.T r.xs) (hf : ∀ i, i < n → CostOk g.T (f i).xs) (w : World)
    (hS : SAt g bs w) (ha : w.cell? ⟨ba, 0, none⟩ = some (.slice (some ⟨r.b, r.o, none⟩) r.xs.length r.k)) (Hr : r.In w) (Hf : ∀ i, i < n → (f i).In w)
    (hv : w.cell? ⟨bv, 0, none⟩ = some (.slice (some ⟨q, 0, none⟩) n cap)) (hc : ∀ i, i < n → w.cell? ⟨q, i, none⟩ = some (f i).v) :
    Calls Try.prog 17 #[.func (.func 38) #[] #[.pointer (some ⟨bv, 0, none⟩)], .func (.func 19) #[] #[.pointer (some ⟨bs, 0, none⟩), .pointer (some ⟨ba, 0, none⟩)]] w (FiQ g r n f w) := by
  have HC := Lib.hid (fun i (hi : i < n) W (hW : Below w.heap.size w W) => pair1_any g hk bs ba r (f i) hr (hf i hi) W (hS.keep hW) (below_keep hW ha) (Hr.keep hW) ((Hf i hi).keep hW))
  have HV := Lib.hid (fun k (hk : 1 ≤ k) => vals1_stops Fence.wide k trivial rfl hk bv q n cap hn f w hv hc)
  clear hS ha Hr Hf hv hc hr hf hk
  refine (callsIn_wide (n := 4)).1 ?_
  refine callsIn_of_wp_marks Try.func17 rfl trivial ?_ rfl
  simp only [Try.ntmps17, List.size_toArray, List.length_cons, List.length_nil, Nat.reduceAdd, Nat.reduceSub, Array.replicate_succ, Array.replicate_zero, List.push_toArray, List.append_toArray, List.nil_append, List.cons_append]
  obtain ⟨W1, hW1⟩ : ∃ W1, W1 = ((w.alloc (.cells #[.func (.func 19) #[] #[.pointer (some ⟨bs, 0, none⟩), .pointer (some ⟨ba, 0, none⟩)]] 70)).alloc (.cells #[.slice none 0 0] 37)).alloc (.cells #[.bool false] 4) := ⟨_, rfl⟩
  have B1 : Below w.heap.size w W1 := by subst hW1; exact below_alloc (below_alloc (below_alloc (Below.refl _ _) _) _) _
  have hC1 : FiC w.heap.size (.func (.func 19) #[] #[.pointer (some ⟨bs, 0, none⟩), .pointer (some ⟨ba, 0, none⟩)]) (.slice none 0 0) false W1 := by
    subst hW1
    exact ⟨by simp [go_sem], ⟨by simp [go_sem], by simp [go_sem]⟩, by simp [go_sem], by simp [go_sem]⟩
  gi_wp2
  rw [← hW1]
  clear hW1
  have hz1 := B1.size
  refine wpIn_rangeFunc_ownF rfl (by omega) (gf := 38) (lb := #[.pointer (some ⟨bv, 0, none⟩)]) rfl trivial (enters_of Try.func38 (by kernel_rfl) rfl) (HV.out _ (by omega)) belowK_t (belowK_b hz1) B1 (fun _ => rfl)
    (fun pre W => (FiC w.heap.size (.func (.func 19) #[] #[.pointer (some ⟨bs, 0, none⟩), .pointer (some ⟨ba, 0, none⟩)]) (.slice none 0 0) false W ∧ Below w.heap.size w W) ∧ ∀ x ∈ pre, ¬ AP g.T r.xs (f (Fin.val x)).xs)
    (fun c pre W => ∃ x, (FiC w.heap.size (.func (.func 19) #[] #[.pointer (some ⟨bs, 0, none⟩), .pointer (some ⟨ba, 0, none⟩)]) (f (Fin.val x)).v true W ∧ Below w.heap.size w W) ∧ c = Code.ret ∧ x ∈ pre ∧ AP g.T r.xs (f (Fin.val x)).xs)
    (OwnFrom.and (OwnFrom.and (FiC.own _ _ _ _ _) (ownFrom_below (Nat.le_refl _) hz1)) (fun _ _ _ _ hs _ _ => hs))
    (fun c => ?own)
    ⟨⟨hC1, B1⟩, fun x hx => (by cases hx)⟩
    (fun x => { tmps := #[.func (.func 38) #[] #[.pointer (some ⟨bv, 0, none⟩)], .func (.func 19) #[] #[.pointer (some ⟨bs, 0, none⟩), .pointer (some ⟨ba, 0, none⟩)], undef, .pointer (some ⟨w.heap.size, 0, none⟩), .pointer (some ⟨w.heap.size + 1, 0, none⟩), .pointer (some ⟨w.heap.size + 1 + 1, 0, none⟩), (f (Fin.val x)).v, undef, .func (.func 38) #[] #[.pointer (some ⟨bv, 0, none⟩)], (f (Fin.val x)).v, undef, undef, undef, undef, undef], defers := [] }) ?assign ?body ?done ?stop
  case own =>
    rintro pre A B row ⟨x, ⟨h1, h2⟩, h3⟩ hg hr
    exact ⟨x, ⟨FiC.own _ _ _ _ _ pre A B row h1 hg hr, ownFrom_below (Nat.le_refl _) hz1 pre A B row h2 hg hr⟩, h3⟩
  case assign =>
    intro l x W K hK
    gi_wp2
    exact hK
  case body =>
    rintro l pre x W ⟨⟨hF, hB⟩, hno⟩ hlen
    have HX := Lib.hid (HC.out x.val x.isLt W hB)
    have HF := Lib.hid hF
    have HB := Lib.hid hB
    have hbox := hF.1
    have lz := World.block_lt_of_cell? _ _ hF.2.2.1
    simp only [Rt.v]
    clear hF hB
    gi_wp2
    refine ⟨trivial, ?_⟩
    refine (CallsIn.inRound l (callsIn_wide.2 HX.out)).mono ?_
    rintro e W3 ⟨z, rfl, hz, hB3⟩
    have HF3 := Lib.hid (HF.out.keep hB3)
    have HB3 := Lib.hid hB3
    have HZ := Lib.hid hz
    obtain ⟨-, ⟨c1, f1⟩, c2, f2⟩ := HF3.out
    clear hB3 hz
    cases z
    · gi_wp2
      exact ⟨keepsO HB3.out, HB3.out.mono HB.out.size, ⟨HF3.out, HB.out.trans (HB3.out.mono HB.out.size)⟩, fun y hy => by
        rcases List.mem_append.1 hy with h | h
        · exact hno y h
        · cases List.mem_singleton.1 h
          exact fun hap => by have := HZ.out.2 hap; cases this⟩
    · gi_wp2
      exact ⟨(keepsO HB3.out).trans ((KeepsOthers.setCell _ _ _).trans (KeepsOthers.setCell _ _ _)), x, ⟨⟨by rw [World.cell?_setCell_far _ _ _ _ (show w.heap.size + 1 + 1 ≠ w.heap.size by omega), World.cell?_setCell_far _ _ _ _ (show w.heap.size + 1 ≠ w.heap.size by omega)]; exact HF3.out.1,
        ⟨by rw [World.cell?_setCell_far _ _ _ _ (show w.heap.size + 1 + 1 ≠ w.heap.size + 1 by omega)]; exact World.cell?_setCell_same _ _ _ c1, by rw [World.frozen?_setCell, World.frozen?_setCell]; exact f1⟩,
        World.cell?_setCell_same _ _ _ ((World.cell?_setCell_far _ _ _ _ (show w.heap.size + 1 ≠ w.heap.size + 1 + 1 by omega)).trans c2), by rw [World.frozen?_setCell, World.frozen?_setCell]; exact f2⟩,
        ((HB.out.trans (HB3.out.mono HB.out.size)).setCell (p := ⟨w.heap.size + 1, 0, none⟩) (by show _ ≤ w.heap.size + 1; omega) _).setCell (p := ⟨w.heap.size + 1 + 1, 0, none⟩) (by show _ ≤ w.heap.size + 1 + 1; omega) _⟩, rfl, by simp, HZ.out.1 (by first | rfl | trivial)⟩
  case done =>
    rintro D ys W hD hys ⟨⟨hF, hB⟩, hno⟩ hK
    obtain ⟨-, ⟨c1, f1⟩, c2, f2⟩ := hF
    have lz2 := World.block_lt_of_cell? _ _ hC1.2.2.1
    change w.heap.size + 1 + 1 < _ at lz2
    gi_wp2
    have hK2 : ((W.setCell ⟨w.heap.size + 1, 0, none⟩ (.slice none 0 0)).setCell ⟨w.heap.size + 1 + 1, 0, none⟩ (.bool false)).heap[D]? = some (.deferred (some [])) := by
      rw [Below.heap_setCell _ _ _ _ (show D ≠ w.heap.size + 1 + 1 by omega), Below.heap_setCell _ _ _ _ (show D ≠ w.heap.size + 1 by omega)]
      exact hK
    have d1 : ((W.setCell ⟨w.heap.size + 1, 0, none⟩ (.slice none 0 0)).setCell ⟨w.heap.size + 1 + 1, 0, none⟩ (.bool false)).cell? ⟨w.heap.size + 1, 0, none⟩ = some (.slice none 0 0) := by
      rw [World.cell?_setCell_far _ _ _ _ (show w.heap.size + 1 + 1 ≠ w.heap.size + 1 by omega)]
      exact World.cell?_setCell_same _ _ _ c1
    have d2 : ((W.setCell ⟨w.heap.size + 1, 0, none⟩ (.slice none 0 0)).setCell ⟨w.heap.size + 1 + 1, 0, none⟩ (.bool false)).cell? ⟨w.heap.size + 1 + 1, 0, none⟩ = some (.bool false) := World.cell?_setCell_same _ _ _ ((World.cell?_setCell_far _ _ _ _ (show w.heap.size + 1 ≠ w.heap.size + 1 + 1 by omega)).trans c2)
    have hB2 := (hB.setCell (p := ⟨w.heap.size + 1, 0, none⟩) (by show _ ≤ w.heap.size + 1; omega) (.slice none 0 0)).setCell (p := ⟨w.heap.size + 1 + 1, 0, none⟩) (by show _ ≤ w.heap.size + 1 + 1; omega) (.bool false)
    refine ⟨by simp, .inl ⟨_, _, rfl, run_takeDeferred hK2, ?_⟩⟩
    generalize (W.setCell ⟨w.heap.size + 1, 0, none⟩ (.slice none 0 0)).setCell ⟨w.heap.size + 1 + 1, 0, none⟩ (.bool false) = V at *
    exact ⟨_, results_cell2 4 5 37 4 rfl (w.heap.size + 1) (w.heap.size + 1 + 1) _ _ rfl rfl (loadVar_one noagg37 ((World.cell?_of_block (a := ⟨w.heap.size + 1, 0, none⟩) (World.putObj_heap_other (show w.heap.size + 1 ≠ D by omega))).trans d1)) (loadVar_one noagg4 ((World.cell?_of_block (a := ⟨w.heap.size + 1 + 1, 0, none⟩) (World.putObj_heap_other (show w.heap.size + 1 + 1 ≠ D by omega))).trans d2)),
      .inr ⟨fun i hi => hno ⟨i, hi⟩ (by
        have : i ∈ ys.map Fin.val := by rw [hys]; exact List.mem_range.2 hi
        obtain ⟨y, hy, e⟩ := List.mem_map.1 this
        have : y = ⟨i, hi⟩ := Fin.ext e
        exact this ▸ hy), rfl⟩, hB2.trans (belowK_b (w := w) (Nat.le_refl _) V D _ _ (by omega) hK2 rfl rfl)⟩
  case stop =>
    rintro D c pre W hD - ⟨x, ⟨hF, hB⟩, rfl, hx, hap⟩ hK
    obtain ⟨-, ⟨c1, f1⟩, c2, f2⟩ := hF
    have lz2 := World.block_lt_of_cell? _ _ hC1.2.2.1
    change w.heap.size + 1 + 1 < _ at lz2
    gi_wp2
    refine ⟨by simp, .inl ⟨_, _, rfl, run_takeDeferred hK, ?_⟩⟩
    exact ⟨_, results_cell2 4 5 37 4 rfl (w.heap.size + 1) (w.heap.size + 1 + 1) _ _ rfl rfl (loadVar_one noagg37 ((World.cell?_of_block (a := ⟨w.heap.size + 1, 0, none⟩) (World.putObj_heap_other (show w.heap.size + 1 ≠ D by omega))).trans c1)) (loadVar_one noagg4 ((World.cell?_of_block (a := ⟨w.heap.size + 1 + 1, 0, none⟩) (World.putObj_heap_other (show w.heap.size + 1 + 1 ≠ D by omega))).trans c2)),
      .inl ⟨x.val, x.isLt, hap, rfl⟩, hB.trans (belowK_b (w := w) (Nat.le_refl _) W D _ _ (by omega) hK rfl rfl)⟩

end Go.Proofs.Ytjhpbemnklpefaa
